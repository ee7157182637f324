/- The walks of package clock and of its reference, third part: sort.Search over a closure, and Window. -/
import Derived.Test.YtocibljkmgffeaaClock2
namespace Go.Proofs.Ytocibljkmgffeaa
open Go.RowKit Go.Proofs.Ytocibljkmgffeaa.Ck
attribute [local go_sem] cell_alloc_some frozen_alloc_some

/-- What a binary search answers: the least place from which on the function is true, if it never turns back. -/
def SearchPost (f : Int → Bool) (N : Int) (w : World) (e : Ending) (w' : World) : Prop :=
  ∃ r : Int, 0 ≤ r ∧ r ≤ N ∧ (0 < r → f (r - 1) = false) ∧ (r < N → f r = true) ∧ e = .returned (.int .i64 r) ∧ Below w.heap.size w w'

def SearchRel (f : Int → Bool) (N : Int) (w : World) (s5 s6 : Value) (wr : World) : Prop :=
  ∃ i j : Int, 0 ≤ i ∧ i ≤ j ∧ j ≤ N ∧ (0 < i → f (i - 1) = false) ∧ (j < N → f j = true) ∧ s5 = .int .i64 i ∧ s6 = .int .i64 j ∧ Below w.heap.size w wr

set_option maxHeartbeats 400000 in
theorem search_any (F : FuncId) (c1 c2 : Value) (f : Int → Bool) (N : Int) (hN : 0 ≤ N) (hN2 : N ≤ 1099511627777) (w : World)
    (eg : ∀ (args : Array Value) (W : World), (callFunc F args).run Try.prog W = .ok (.enter F args) W)
    (hcall : ∀ W i, 0 ≤ i → i < N → Below w.heap.size w W → Calls Try.prog F #[.int .i64 i, c1, c2] W fun e W' => e = .returned (.bool (f i)) ∧ Below W.heap.size W W') :
    Calls Try.prog 61 #[.int .i64 N, .func (.func F) #[] #[c1, c2]] w (SearchPost f N w) := by
  have H := Lib.hid hcall
  clear hcall
  go_enter Try.func61, Try.ntmps61
  go_wp2
  go_loopw [5, 6, 7, 9, 10, 11, 12, 13, 14, 15, 16, 17, 18, 19, 20, 21, 22, 23, 24] (fun s5 s6 _ _ _ _ _ _ _ _ _ _ _ _ _ _ _ _ _ wr => SearchRel f N w s5 s6 wr) (fun s5 s6 _ _ _ _ _ _ _ _ _ _ _ _ _ _ _ _ _ _ => (intOf s6 - intOf s5).toNat)
  case atStart => exact ⟨0, N, by omega, by omega, by omega, fun h => by omega, fun h => by omega, rfl, rfl, Below.refl _ _⟩
  case round =>
    obtain ⟨i, j, h0, h1, h2, h3, h4, rfl, rfl, hb⟩ := hrel
    have H3 := Lib.hid h3
    have H4 := Lib.hid h4
    clear h3 h4
    by_cases hlt : i < j
    · go_wp2_with fail
      refine (H.out wr ((i + j) / 2) (by omega) (by omega) hb).mono ?_
      rintro e w1 ⟨rfl, hb1⟩
      have hb2 : Below w.heap.size w w1 := bl_then hb hb1
      cases hf : f ((i + j) / 2)
      · have hf' : Hid (f ((i + j) / 2) = false) := hf
        go_wp2
        go_roundw
        case rel => exact ⟨(i + j) / 2 + 1, j, by omega, by omega, by omega, fun _ => by rw [show (i + j) / 2 + 1 - 1 = (i + j) / 2 from by omega]; exact hf'.out, H4.out, rfl, rfl, hb2⟩
        case measure => simp [intOf]; omega
      · have hf' : Hid (f ((i + j) / 2) = true) := hf
        go_wp2
        go_roundw
        case rel => exact ⟨i, (i + j) / 2, by omega, by omega, by omega, H3.out, fun _ => hf'.out, rfl, rfl, hb2⟩
        case measure => simp [intOf]; omega
    · obtain rfl : i = j := by omega
      go_wp2
      go_ret
      exact ⟨i, h0, h2, H3.out, H4.out, rfl, hb⟩

set_option maxHeartbeats 400000 in
theorem comes_any (a b d p n m : Int) (B4 B5 : Nat) (w : World) (h1 : 0 ≤ a) (h2 : a ≤ 1099511627777) (h3 : 0 ≤ d) (h4 : d ≤ 1099511627776)
    (hb : ∀ i, w.cell? ⟨B4, i, none⟩ = #[.int .i64 b][i]?) (ht : ∀ i, w.cell? ⟨B5, i, none⟩ = #[.int .i64 p, .int .i64 d, .int .i64 n, .int .i64 m][i]?) :
    Calls Try.prog 57 #[.int .i64 a, .pointer (some ⟨B4, 0, none⟩), .pointer (some ⟨B5, 0, none⟩)] w fun e w' => e = .returned (.bool (!aheadB a b d)) ∧ Below w.heap.size w w' := by
  go_enter Try.func57, Try.ntmps57
  go_wp2_with (go_at_call 58; (with_reducible refine (ahead_any _ _ _ _ _ _ _ h1 h2 h3 h4).mono ?_); rintro e w1 ⟨rfl, hb1⟩; have hz1 := hb1.size)
  go_ret
  exact ⟨rfl, by (repeat (with_reducible (first | exact Below.refl _ _ | assumption | refine bl_alloc ?_ _ | refine bl_drew ?_ | refine bl_drewN ?_ _ | (refine bl_set ?_ ?_ _; (focus (first | (simp; done) | (simp; omega) | omega))) | refine bl_then ?_ (by assumption))))⟩

set_option maxHeartbeats 400000 in
theorem goes_any (a b d p n m : Int) (B3 B5 : Nat) (w : World) (h1 : 0 ≤ b) (h2 : b ≤ 1099511627776) (h3 : 1 ≤ p) (h4 : p ≤ 1099511627776)
    (hb : ∀ i, w.cell? ⟨B3, i, none⟩ = #[.int .i64 b][i]?) (ht : ∀ i, w.cell? ⟨B5, i, none⟩ = #[.int .i64 p, .int .i64 d, .int .i64 n, .int .i64 m][i]?) :
    Calls Try.prog 59 #[.int .i64 a, .pointer (some ⟨B3, 0, none⟩), .pointer (some ⟨B5, 0, none⟩)] w fun e w' => e = .returned (.bool (expB a b p)) ∧ Below w.heap.size w w' := by
  go_enter Try.func59, Try.ntmps59
  go_wp2_with (go_at_call 60; (with_reducible refine (expires_any _ _ _ _ _ _ _ h1 h2 h3 h4).mono ?_); rintro e w1 ⟨rfl, hb1⟩; have hz1 := hb1.size)
  go_ret
  exact ⟨rfl, by (repeat (with_reducible (first | exact Below.refl _ _ | assumption | refine bl_alloc ?_ _ | refine bl_drew ?_ | refine bl_drewN ?_ _ | (refine bl_set ?_ ?_ _; (focus (first | (simp; done) | (simp; omega) | omega))) | refine bl_then ?_ (by assumption))))⟩

theorem enter57 (args : Array Value) (W : World) : (callFunc 57 args).run Try.prog W = .ok (.enter 57 args) W := by go_simp
theorem enter59 (args : Array Value) (W : World) : (callFunc 59 args).run Try.prog W = .ok (.enter 59 args) W := by go_simp

set_option maxHeartbeats 400000 in
theorem Window_no (a b p d n m : Int) (w : World) (hc : ¬ askT a b p d n m = 0) :
    Calls Try.prog 22 #[.int .i64 a, .int .i64 b, .agg #[.int .i64 p, .int .i64 d, .int .i64 n, .int .i64 m]] w fun e w' => e = .returned (.tuple #[.int .i64 0, .int .i64 0, .int .i64 (askT a b p d n m)]) ∧ Below w.heap.size w w' := by
  have hb := ne_bne hc
  clear hc
  go_enter Try.func22, Try.ntmps22
  go_wp2_with (first | (go_at_call 56; (with_reducible refine (asked_any _ _ _ _ _ _ _).mono ?_); rintro e w1 ⟨rfl, hb1⟩; have hz1 := hb1.size; have B0 : w1.heap[w.heap.size]? = some _ := kb_below hb1 (by (repeat (with_reducible (first | assumption | (apply kb_new; (focus (simp; done))) | apply kb_alloc | apply kb_drew | apply kb_drewN | apply kb_set | (apply kb_far; (focus (first | (simp; done) | (simp; omega)))))))); have c0 := kb_cell B0))
  go_ret3
  exact ⟨rfl, by (repeat (with_reducible (first | exact Below.refl _ _ | assumption | refine bl_alloc ?_ _ | refine bl_drew ?_ | refine bl_drewN ?_ _ | (refine bl_set ?_ ?_ _; (focus (first | (simp; done) | (simp; omega) | omega))) | refine bl_then ?_ (by assumption))))⟩

set_option maxHeartbeats 400000 in
theorem Window_yes (a b p d n m : Int) (w : World) (hc : askT a b p d n m = 0) :
    Calls Try.prog 22 #[.int .i64 a, .int .i64 b, .agg #[.int .i64 p, .int .i64 d, .int .i64 n, .int .i64 m]] w fun e w' => e = .returned (.tuple #[.int .i64 (winF a b p d n m), .int .i64 (winL a b p d n m), .int .i64 (winE a b p d n m)]) ∧ Below w.heap.size w w' := by
  obtain ⟨hk, a1, a2, b1, b2⟩ := ask_bounds hc
  obtain ⟨p1, p2, d1, d2, _⟩ := chk_bounds hk
  clear hk
  go_enter Try.func22, Try.ntmps22
  go_wp2_with (first | (go_at_call 56; (with_reducible refine (asked_any _ _ _ _ _ _ _).mono ?_); rintro e w1 ⟨rfl, hb1⟩; have hz1 := hb1.size; have B0 : w1.heap[w.heap.size]? = some _ := kb_below hb1 (by (repeat (with_reducible (first | assumption | (apply kb_new; (focus (simp; done))) | apply kb_alloc | apply kb_drew | apply kb_drewN | apply kb_set | (apply kb_far; (focus (first | (simp; done) | (simp; omega)))))))); have c0 := kb_cell B0; have B1 : w1.heap[w.heap.size + 1]? = some _ := kb_below hb1 (by (repeat (with_reducible (first | assumption | (apply kb_new; (focus (simp; done))) | apply kb_alloc | apply kb_drew | apply kb_drewN | apply kb_set | (apply kb_far; (focus (first | (simp; done) | (simp; omega)))))))); have c1 := kb_cell B1; have B2 : w1.heap[w.heap.size + 2]? = some _ := kb_below hb1 (by (repeat (with_reducible (first | assumption | (apply kb_new; (focus (simp; done))) | apply kb_alloc | apply kb_drew | apply kb_drewN | apply kb_set | (apply kb_far; (focus (first | (simp; done) | (simp; omega)))))))); have c2 := kb_cell B2))
  refine (search_any 57 _ _ (fun i => !aheadB i b d) _ (by omega) (by omega) _ enter57 ?_).mono ?_
  · intro W i h1 h2 hW
    refine comes_any i b d p n m _ _ W h1 (by omega) d1 d2 ?_ ?_
    · exact kb_cell (kb_below hW B1)
    · exact kb_cell (kb_below hW B2)
  rintro e w2 ⟨r, hr0, hr1, hr2, hr3, rfl, hb2⟩
  obtain rfl := first_of b1 b2 hr0 hr1 hr2 hr3
  clear hr0 hr1 hr2 hr3
  have C0 := kb_below hb2 B0
  have C2 := kb_below hb2 B2
  go_wp2_with fail
  refine (search_any 59 _ _ (fun i => expB i a p) _ (by omega) (by omega) _ enter59 ?_).mono ?_
  · intro W i h1 h2 hW
    refine goes_any i a d p n m _ _ W a1 a2 p1 p2 ?_ ?_
    · exact kb_cell (kb_below hW C0)
    · exact kb_cell (kb_below hW C2)
  rintro e w3 ⟨s, hs0, hs1, hs2, hs3, rfl, hb3⟩
  obtain rfl := last_of a1 a2 p1 hs0 hs1 hs2 hs3
  obtain ⟨f1, f2⟩ := first_bd (d := d) b1 b2
  obtain ⟨l1, l2⟩ := last_bd a1 p1
  clear hs0 hs1 hs2 hs3 C0 C2 B0 B1 B2 c0 c1 c2
  by_cases hle : firstN b d ≤ lastN a p
  · have e1 : winE a b p d n m = 0 := by simp [winE, hc, hle]
    have e2 : winF a b p d n m = firstN b d := by simp [winF, e1]
    have e3 : winL a b p d n m = lastN a p := by simp [winL, e1]
    have E1 := Lib.hid e1
    have E2 := Lib.hid e2
    have E3 := Lib.hid e3
    have hlt : firstN b d < lastN a p + 1 := by omega
    clear e1 e2 e3 hc
    go_wp2
    go_ret3
    rw [E1.out, E2.out, E3.out]
    exact ⟨ret_iii rfl (by omega) rfl, by (repeat (with_reducible (first | exact Below.refl _ _ | assumption | refine bl_alloc ?_ _ | refine bl_drew ?_ | refine bl_drewN ?_ _ | (refine bl_set ?_ ?_ _; (focus (first | (simp; done) | (simp; omega) | omega))) | refine bl_then ?_ (by assumption))))⟩
  · have e1 : winE a b p d n m = 16 := by simp [winE, hc, hle]
    have e2 : winF a b p d n m = 0 := by simp [winF, e1]
    have e3 : winL a b p d n m = 0 := by simp [winL, e1]
    have E1 := Lib.hid e1
    have E2 := Lib.hid e2
    have E3 := Lib.hid e3
    have hge : lastN a p + 1 ≤ firstN b d := by omega
    clear e1 e2 e3 hc
    go_wp2
    go_ret3
    rw [E1.out, E2.out, E3.out]
    exact ⟨rfl, by (repeat (with_reducible (first | exact Below.refl _ _ | assumption | refine bl_alloc ?_ _ | refine bl_drew ?_ | refine bl_drewN ?_ _ | (refine bl_set ?_ ?_ _; (focus (first | (simp; done) | (simp; omega) | omega))) | refine bl_then ?_ (by assumption))))⟩

theorem Window_any (a b p d n m : Int) (w : World) :
    Calls Try.prog 22 #[.int .i64 a, .int .i64 b, .agg #[.int .i64 p, .int .i64 d, .int .i64 n, .int .i64 m]] w fun e w' => e = .returned (.tuple #[.int .i64 (winF a b p d n m), .int .i64 (winL a b p d n m), .int .i64 (winE a b p d n m)]) ∧ Below w.heap.size w w' := by
  by_cases hc : askT a b p d n m = 0
  · exact Window_yes a b p d n m w hc
  · have e1 : winE a b p d n m = askT a b p d n m := by simp [winE, hc]
    have e2 : winF a b p d n m = 0 := by simp [winF, e1, hc]
    have e3 : winL a b p d n m = 0 := by simp [winL, e1, hc]
    rw [e1, e2, e3]
    exact Window_no a b p d n m w hc

set_option maxHeartbeats 400000 in
theorem rWindow_no (a b p d n m : Int) (w : World) (hc : ¬ askT a b p d n m = 0) :
    Calls Try.prog 23 #[.int .i64 a, .int .i64 b, .agg #[.int .i64 p, .int .i64 d, .int .i64 n, .int .i64 m]] w fun e w' => e = .returned (.tuple #[.int .i64 0, .int .i64 0, .int .i64 (askT a b p d n m)]) ∧ Below w.heap.size w w' := by
  have hb := ne_bne hc
  clear hc
  go_enter Try.func23, Try.ntmps23
  go_wp2_with (first | (go_at_call 62; (with_reducible refine (may_any _ _ _ _ _ _ _).mono ?_); rintro e w1 ⟨rfl, hb1⟩; have hz1 := hb1.size; have B0 : w1.heap[w.heap.size]? = some _ := kb_below hb1 (by (repeat (with_reducible (first | assumption | (apply kb_new; (focus (simp; done))) | apply kb_alloc | apply kb_drew | apply kb_drewN | apply kb_set | (apply kb_far; (focus (first | (simp; done) | (simp; omega)))))))); have c0 := kb_cell B0))
  go_ret3
  exact ⟨rfl, by (repeat (with_reducible (first | exact Below.refl _ _ | assumption | refine bl_alloc ?_ _ | refine bl_drew ?_ | refine bl_drewN ?_ _ | (refine bl_set ?_ ?_ _; (focus (first | (simp; done) | (simp; omega) | omega))) | refine bl_then ?_ (by assumption))))⟩

set_option maxHeartbeats 400000 in
theorem rWindow_yes (a b p d n m : Int) (w : World) (hc : askT a b p d n m = 0) :
    Calls Try.prog 23 #[.int .i64 a, .int .i64 b, .agg #[.int .i64 p, .int .i64 d, .int .i64 n, .int .i64 m]] w fun e w' => e = .returned (.tuple #[.int .i64 (winF a b p d n m), .int .i64 (winL a b p d n m), .int .i64 (winE a b p d n m)]) ∧ Below w.heap.size w w' := by
  obtain ⟨hk, a1, a2, b1, b2⟩ := ask_bounds hc
  obtain ⟨p1, p2, d1, d2, _⟩ := chk_bounds hk
  have hl : lastN a p = min (a + p - 1) 1099511627776 := rfl
  have hf : firstN b d = if 0 < d then max 0 (b - d + 1) else b := by unfold firstN; split <;> omega
  have e1 : winE a b p d n m = if firstN b d ≤ lastN a p then 0 else 16 := by simp [winE, hc]
  have e2 : winF a b p d n m = if firstN b d ≤ lastN a p then firstN b d else 0 := by simp only [winF, e1]; split <;> simp
  have e3 : winL a b p d n m = if firstN b d ≤ lastN a p then lastN a p else 0 := by simp only [winL, e1]; split <;> simp
  rw [hl, hf] at e1 e2 e3
  have E1 := Lib.hid e1
  have E2 := Lib.hid e2
  have E3 := Lib.hid e3
  clear hk e1 e2 e3 hl hf
  go_enter Try.func23, Try.ntmps23
  go_wp2_with (first | (go_at_call 62; (with_reducible refine (may_any _ _ _ _ _ _ _).mono ?_); rintro e w1 ⟨rfl, hb1⟩; have hz1 := hb1.size; have B0 : w1.heap[w.heap.size]? = some _ := kb_below hb1 (by (repeat (with_reducible (first | assumption | (apply kb_new; (focus (simp; done))) | apply kb_alloc | apply kb_drew | apply kb_drewN | apply kb_set | (apply kb_far; (focus (first | (simp; done) | (simp; omega)))))))); have c0 := kb_cell B0))
  all_goals
    go_ret3
    rw [E1.out, E2.out, E3.out]
    refine ⟨ret_iii ?_ ?_ ?_, by (repeat (with_reducible (first | exact Below.refl _ _ | assumption | refine bl_alloc ?_ _ | refine bl_drew ?_ | refine bl_drewN ?_ _ | (refine bl_set ?_ ?_ _; (focus (first | (simp; done) | (simp; omega) | omega))) | refine bl_then ?_ (by assumption))))⟩
  all_goals (split <;> (try split) <;> omega)

theorem rWindow_any (a b p d n m : Int) (w : World) :
    Calls Try.prog 23 #[.int .i64 a, .int .i64 b, .agg #[.int .i64 p, .int .i64 d, .int .i64 n, .int .i64 m]] w fun e w' => e = .returned (.tuple #[.int .i64 (winF a b p d n m), .int .i64 (winL a b p d n m), .int .i64 (winE a b p d n m)]) ∧ Below w.heap.size w w' := by
  by_cases hc : askT a b p d n m = 0
  · exact rWindow_yes a b p d n m w hc
  · have e1 : winE a b p d n m = askT a b p d n m := by simp [winE, hc]
    have e2 : winF a b p d n m = 0 := by simp [winF, e1, hc]
    have e3 : winL a b p d n m = 0 := by simp [winL, e1, hc]
    rw [e1, e2, e3]
    exact rWindow_no a b p d n m w hc
end Go.Proofs.Ytocibljkmgffeaa
