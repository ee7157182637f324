/- The walks of package backoff: Full. -/
import Derived.Test.YtocibljkmgffeaaBack7
namespace Go.Proofs.Ytocibljkmgffeaa
open Go.RowKit Go.Shelf Go.Proofs.Ytocibljkmgffeaa.Bk
attribute [local go_sem] Oper.semAt_some cell_alloc_some frozen_alloc_some

theorem wN_grows {b c : Int} (h1 : 1 ≤ b) (h2 : b ≤ c) (k : Nat) : wN b c k = c ∨ (k : Int) + 1 ≤ wN b c k := by
  induction k with
  | zero => right; simp [wN]; omega
  | succ k ih =>
    rw [wN_succ]
    have := wN_bd h1 h2 k
    rcases ih with h | h
    · left; omega
    · by_cases hh : 2 * wN b c k < c
      · right; omega
      · left; omega

theorem wN_pow {b c : Int} (h1 : 1 ≤ b) (h2 : b ≤ c) (k : Nat) : wN b c k = c ∨ (2 : Int) ^ k ≤ wN b c k := by
  induction k with
  | zero => right; simpa [wN] using h1
  | succ k ih =>
    rw [wN_succ]
    have := wN_bd h1 h2 k
    rcases ih with h | h
    · left; omega
    · by_cases hh : 2 * wN b c k < c
      · right; rw [Int.pow_succ]; omega
      · left; omega

/-- From how many strikes on the wait is the cap. -/
def FullAt (b c : Int) (K : Nat) : Prop := K ≤ 20 ∧ wN b c K = c ∧ ∀ j, j < K → wN b c j ≠ c

theorem least (p : Nat → Prop) (n : Nat) (h : p n) : ∃ k, k ≤ n ∧ p k ∧ ∀ j, j < k → ¬ p j := by
  induction n using Nat.strongRecOn with
  | ind n ih =>
    by_cases hh : ∃ j, j < n ∧ p j
    · obtain ⟨j, hj, hp⟩ := hh
      obtain ⟨k, hk, r⟩ := ih j hj hp
      exact ⟨k, by omega, r⟩
    · exact ⟨n, Nat.le_refl n, h, fun j hj hp => hh ⟨j, hj, hp⟩⟩

theorem fullAt {b c : Int} (h1 : 1 ≤ b) (h2 : b ≤ c) (h3 : c ≤ 1048576) : ∃ K, FullAt b c K := by
  have h20 : wN b c 20 = c := by
    rcases wN_pow h1 h2 20 with h | h
    · exact h
    · have := wN_bd h1 h2 20
      have e : (2 : Int) ^ 20 = 1048576 := by decide
      omega
  obtain ⟨k, hk, hp, hj⟩ := least (fun k => wN b c k = c) 20 h20
  exact ⟨k, hk, hp, hj⟩

set_option maxHeartbeats 1000000 in
theorem bFull_yes (K : Nat) (b c : Int) (w : World) (hK : FullAt b c K) (hc : chkW b c = 0) :
    Calls Try.prog 27 #[.int .i64 b, .int .i64 c] w fun e w' => e = .returned (.tuple #[.int .i64 K, .int .i64 0]) ∧ Below w.heap.size w w' := by
  obtain ⟨q1, q2, q3⟩ := chkW_ok hc
  obtain ⟨t1, t2, t3⟩ := hK
  have T2 := Lib.hid t2
  have T3 := Lib.hid t3
  clear t2 t3
  refine (callsIn_wide (n := 8)).1 ?_
  refine callsIn_of_wp_marks Try.func27 rfl trivial ?_ rfl
  simp only [Try.ntmps27, List.size_toArray, List.length_cons, List.length_nil, Nat.reduceAdd, Nat.reduceSub, Array.replicate_succ, Array.replicate_zero, List.push_toArray, List.append_toArray, List.nil_append, List.cons_append]
  refine wpIn_wide.2 ?_
  go_wp2_with (go_at_call 17; (with_reducible refine (bCheck_any b c _).mono ?_); rintro e w1 ⟨rfl, hb1⟩; have hz1 := hb1.size; have B0 : w1.heap[w.heap.size]? = some _ := kb_below hb1 (by (repeat (with_reducible (first | assumption | (apply kb_new; (focus (simp; done))) | apply kb_alloc | apply kb_drew | apply kb_drewN | apply kb_set | (apply kb_far; (focus (first | (simp; done) | (simp; omega)))))))); have c0 := kb_cell B0; have z0 := kb_frozen B0; have B1 : w1.heap[w.heap.size + 1]? = some _ := kb_below hb1 (by (repeat (with_reducible (first | assumption | (apply kb_new; (focus (simp; done))) | apply kb_alloc | apply kb_drew | apply kb_drewN | apply kb_set | (apply kb_far; (focus (first | (simp; done) | (simp; omega)))))))); have c1 := kb_cell B1; have z1 := kb_frozen B1; have B2 : w1.heap[w.heap.size + 2]? = some _ := kb_below hb1 (by (repeat (with_reducible (first | assumption | (apply kb_new; (focus (simp; done))) | apply kb_alloc | apply kb_drew | apply kb_drewN | apply kb_set | (apply kb_far; (focus (first | (simp; done) | (simp; omega)))))))); have c2 := kb_cell B2; have z2 := kb_frozen B2)
  refine (waits_any b c _).mono ?_
  rintro e w2 ⟨rfl, rfl⟩
  have b3 : Below w.heap.size w ((w1.alloc (.cells #[.int .i64 b] 3)).alloc (.cells #[.int .i64 c] 3)) := by (repeat (with_reducible (first | exact Below.refl _ _ | assumption | refine bl_alloc ?_ _ | refine bl_drew ?_ | refine bl_drewN ?_ _ | (refine bl_set ?_ ?_ _; (focus (first | (simp; done) | (simp; omega) | omega))) | refine bl_then ?_ (by assumption))))
  go_wp2
  have D0 : ((w1.alloc (.cells #[.int .i64 b] 3)).alloc (.cells #[.int .i64 c] 3)).heap[w.heap.size]? = some _ := kb_alloc (kb_alloc B0 _) _
  have D1 : ((w1.alloc (.cells #[.int .i64 b] 3)).alloc (.cells #[.int .i64 c] 3)).heap[w.heap.size + 1]? = some _ := kb_alloc (kb_alloc B1 _) _
  have D2 : ((w1.alloc (.cells #[.int .i64 b] 3)).alloc (.cells #[.int .i64 c] 3)).heap[w.heap.size + 2]? = some _ := kb_alloc (kb_alloc B2 _) _
  have D3 : ((w1.alloc (.cells #[.int .i64 b] 3)).alloc (.cells #[.int .i64 c] 3)).heap[w1.heap.size]? = some _ := kb_alloc (kb_new rfl _) _
  have D4 : ((w1.alloc (.cells #[.int .i64 b] 3)).alloc (.cells #[.int .i64 c] 3)).heap[w1.heap.size + 1]? = some _ := kb_new (by simp) _
  have hsz : ((w1.alloc (.cells #[.int .i64 b] 3)).alloc (.cells #[.int .i64 c] 3)).heap.size = w1.heap.size + 2 := by simp
  have hz := hb1.size
  simp only [World.size_alloc] at hz
  generalize ((w1.alloc (.cells #[.int .i64 b] 3)).alloc (.cells #[.int .i64 c] 3)) = w3 at *
  have HS := Lib.hid hsz
  clear hsz
  refine (wpIn_wide (n := 8)).1 ?_
  refine wpIn_range_seq (I := fun k W => k ≤ K ∧ W.heap[w.heap.size]? = some (.cells #[.int .i64 c] 3) ∧ W.heap[w.heap.size + 1]? = some (.cells #[.int .i64 0] 3) ∧ W.heap[w.heap.size + 2]? = some (.cells #[.int .i64 0] 22) ∧ W.heap[w1.heap.size]? = some (.cells #[.int .i64 b] 3) ∧ W.heap[w1.heap.size + 1]? = some (.cells #[.int .i64 c] 3) ∧ Below w.heap.size w W)
    (Ix := fun cd k W => cd = .ret ∧ k = K ∧ W.heap[w.heap.size + 1]? = some (.cells #[.int .i64 K] 3) ∧ W.heap[w.heap.size + 2]? = some (.cells #[.int .i64 0] 22) ∧ Below w.heap.size w W)
    (a₁ := fun k => { tmps := #[.int .i64 b, .int .i64 c, undef, .pointer (some ⟨w.heap.size, 0, none⟩), .pointer (some ⟨w.heap.size + 1, 0, none⟩), .pointer (some ⟨w.heap.size + 1 + 1, 0, none⟩), .int .i64 0, .int .i64 k, .int .i64 (wN b c k), .int .i64 b, .int .i64 c, .int .i64 0, .int .i64 0, .bool false, undef, .int .i64 b, .int .i64 c, .func (.func 66) #[] #[.pointer (some ⟨w1.heap.size, 0, none⟩), .pointer (some ⟨w1.heap.size + 1, 0, none⟩)], .int .i64 k, .int .i64 (wN b c k), undef, undef, undef, undef], defers := [] })
    rfl (by omega) (gf := 66) (lb := #[.pointer (some ⟨w1.heap.size, 0, none⟩), .pointer (some ⟨w1.heap.size + 1, 0, none⟩)]) rfl trivial (enters_of Try.func66 (by kernel_rfl) rfl)
    (waits1_goes Fence.wide 7 trivial rfl (by omega) b c q1 q2 q3 (w1.heap.size) (w1.heap.size + 1) K (by omega)) (fun _ => rfl) ?good ?keepI ?keepX ?start ?assign ?body ?stop
  case good =>
    intro A hA
    refine ⟨fun k W h => ⟨⟨h.1.1, h.1.2.1, h.1.2.2.1, h.1.2.2.2.1, h.1.2.2.2.2.1, h.1.2.2.2.2.2.1, h.1.2.2.2.2.2.2.drew⟩, hA W h.2⟩, fun k W h => h.1.1, fun k W h => ⟨kb_cell h.1.2.2.2.2.1 0, kb_cell h.1.2.2.2.2.2.1 0⟩⟩
  case keepI =>
    intro k W l o hl h
    have hs := HS.out
    exact ⟨h.1, kb_put h.2.1 (by omega) _, kb_put h.2.2.1 (by omega) _, kb_put h.2.2.2.1 (by omega) _, kb_put h.2.2.2.2.1 (by omega) _, kb_put h.2.2.2.2.2.1 (by omega) _, bl_put h.2.2.2.2.2.2 (by omega) _⟩
  case keepX =>
    intro cd k W l o hl h
    have hs := HS.out
    exact ⟨h.1, h.2.1, kb_put h.2.2.1 (by omega) _, kb_put h.2.2.2.1 (by omega) _, bl_put h.2.2.2.2 (by omega) _⟩
  case start =>
    intro o o'
    exact ⟨by omega, kb_alloc (kb_alloc D0 _) _, kb_alloc (kb_alloc D1 _) _, kb_alloc (kb_alloc D2 _) _, kb_alloc (kb_alloc D3 _) _, kb_alloc (kb_alloc D4 _) _, by (repeat (with_reducible (first | exact Below.refl _ _ | assumption | refine bl_alloc ?_ _ | refine bl_drew ?_ | refine bl_drewN ?_ _ | (refine bl_set ?_ ?_ _; (focus (first | (simp; done) | (simp; omega) | omega))) | refine bl_then ?_ (by assumption))))⟩
  case assign =>
    intro l k W K hK
    gi_wp2
    exact hK
  case body =>
    rintro l k W rfl hlt ⟨h1, h2, h3, h4, h5, h6, h7⟩
    have hs := HS.out
    have c0 := kb_cell h2
    have c1 := kb_cell h3
    have c2 := kb_cell h4
    have z1 := kb_frozen h3
    have z2 := kb_frozen h4
    have n1 : w3.heap.size + 1 ≠ w.heap.size + 1 := by omega
    have n2 : w3.heap.size + 1 ≠ w.heap.size + 2 := by omega
    have n3 : w3.heap.size ≠ w.heap.size + 1 := by omega
    have n4 : w3.heap.size ≠ w.heap.size + 2 := by omega
    have hs' := Lib.hid hs
    clear hs
    by_cases hk : k = K
    · subst hk
      have t2 := T2.out
      have hne : (wN b c k == c) = true := by simp [t2]
      clear t2
      gi_wp2
      refine ⟨⟨?_, ?_⟩, rfl, rfl, ?_, ?_, ?_⟩
      · exact (Below.heap_setCell _ _ _ _ n2).trans (Below.heap_setCell _ _ _ _ n1)
      · exact (Below.heap_setCell _ _ _ _ n4).trans (Below.heap_setCell _ _ _ _ n3)
      · exact kb_far (kb_set h3 _) (by simp) _
      · exact kb_set (kb_far h4 (by simp) _) _
      · (repeat (with_reducible (first | exact Below.refl _ _ | assumption | refine bl_alloc ?_ _ | refine bl_drew ?_ | refine bl_drewN ?_ _ | (refine bl_set ?_ ?_ _; (focus (first | (simp; done) | (simp; omega) | omega))) | refine bl_then ?_ (by assumption))))
    · have hne : (wN b c k == c) = false := by have := T3.out k (by omega); simpa using this
      have hk' := Lib.hid hk
      clear hk
      gi_wp2
      have hk := hk'.out
      exact ⟨⟨rfl, rfl⟩, by omega, h2, h3, h4, h5, h6, h7⟩
  case stop =>
    rintro cd k W ⟨rfl, rfl, h3, h4, h7⟩ hD
    have hs := HS.out
    gi_wp2
    refine ⟨by simp, .inl ⟨_, _, rfl, run_takeDeferred hD, ?_⟩⟩
    have g3 := kb_cell (kb_put h3 (l := w3.heap.size) (by omega) (.deferred none))
    have g4 := kb_cell (kb_put h4 (l := w3.heap.size) (by omega) (.deferred none))
    exact ⟨.tuple #[.int .i64 k, .int .i64 0], by simp [results, Try.f27, go_sem, g3, g4], rfl, bl_put h7 (by omega) _⟩

set_option maxHeartbeats 400000 in
theorem bFull_no (b c : Int) (w : World) (h : ¬ chkW b c = 0) :
    Calls Try.prog 27 #[.int .i64 b, .int .i64 c] w fun e w' => e = .returned (.tuple #[.int .i64 0, .int .i64 3]) ∧ Below w.heap.size w w' := by
  have h3 : chkW b c = 3 := by unfold chkW at h ⊢; split at h <;> simp_all
  clear h
  go_enter Try.func27, Try.ntmps27
  go_wp2_with (go_at_call 17; (with_reducible refine (bCheck_any _ _ _).mono ?_); rintro e w1 ⟨rfl, hb1⟩; have hz1 := hb1.size; have B0 : w1.heap[w.heap.size]? = some _ := kb_below hb1 (by (repeat (with_reducible (first | assumption | (apply kb_new; (focus (simp; done))) | apply kb_alloc | apply kb_drew | apply kb_drewN | apply kb_set | (apply kb_far; (focus (first | (simp; done) | (simp; omega)))))))); have c0 := kb_cell B0; have z0 := kb_frozen B0; have B1 : w1.heap[w.heap.size + 1]? = some _ := kb_below hb1 (by (repeat (with_reducible (first | assumption | (apply kb_new; (focus (simp; done))) | apply kb_alloc | apply kb_drew | apply kb_drewN | apply kb_set | (apply kb_far; (focus (first | (simp; done) | (simp; omega)))))))); have c1 := kb_cell B1; have z1 := kb_frozen B1; have B2 : w1.heap[w.heap.size + 2]? = some _ := kb_below hb1 (by (repeat (with_reducible (first | assumption | (apply kb_new; (focus (simp; done))) | apply kb_alloc | apply kb_drew | apply kb_drewN | apply kb_set | (apply kb_far; (focus (first | (simp; done) | (simp; omega)))))))); have c2 := kb_cell B2; have z2 := kb_frozen B2)
  exact bodyPost_ret (v := .tuple #[.int .i64 0, .int .i64 3]) (by simp [results, Try.results27, go_sem, *]) rfl ⟨rfl, by (repeat (with_reducible (first | exact Below.refl _ _ | assumption | refine bl_alloc ?_ _ | refine bl_drew ?_ | refine bl_drewN ?_ _ | (refine bl_set ?_ ?_ _; (focus (first | (simp; done) | (simp; omega) | omega))) | refine bl_then ?_ (by assumption))))⟩

set_option maxHeartbeats 400000 in
theorem rbFull_no (b c : Int) (w : World) (h : ¬ chkW b c = 0) :
    Calls Try.prog 28 #[.int .i64 b, .int .i64 c] w fun e w' => e = .returned (.tuple #[.int .i64 0, .int .i64 3]) ∧ w = w' := by
  have h3 : chkW b c = 3 := by unfold chkW at h ⊢; split at h <;> simp_all
  clear h
  go_enter Try.func28, Try.ntmps28
  go_wp2_with (go_at_call 18; (with_reducible refine (rbCheck_any _ _ _).mono ?_); rintro e w1 ⟨rfl, rfl⟩)
  go_ret2
  exact ⟨rfl, rfl⟩

set_option maxHeartbeats 400000 in
theorem rbFull_yes (K : Nat) (b c : Int) (w : World) (hK : FullAt b c K) (hc : chkW b c = 0) :
    Calls Try.prog 28 #[.int .i64 b, .int .i64 c] w fun e w' => e = .returned (.tuple #[.int .i64 K, .int .i64 0]) ∧ w = w' := by
  obtain ⟨t1, t2, t3⟩ := hK
  have T2 := Lib.hid t2
  have T3 := Lib.hid t3
  clear t2 t3
  go_enter Try.func28, Try.ntmps28
  go_wp2_with (go_at_call 18; (with_reducible refine (rbCheck_any _ _ _).mono ?_); rintro e w1 ⟨rfl, rfl⟩)
  go_loop [6, 7, 8, 13, 14, 15, 16, 17, 18, 19, 20, 21, 22, 23, 24] (fun s6 _ _ _ _ _ _ _ _ _ _ _ _ _ _ => ∃ k : Nat, k ≤ K ∧ s6 = .int .i64 k) (fun s6 _ _ _ _ _ _ _ _ _ _ _ _ _ _ => K - (intOf s6).toNat)
  case atStart => exact ⟨0, by omega, rfl⟩
  case round =>
    obtain ⟨k, hk, rfl⟩ := hrel
    have hk10 : k ≤ 1000 := by omega
    by_cases hlt : k < K
    · have hne : (wN b c k == c) = false := by have := T3.out k hlt; simpa using this
      go_wp2_with (go_at_call 14; (with_reducible refine (rbWait_yes k b c _ hk10 hc).mono ?_); rintro e w1 ⟨rfl, rfl⟩)
      go_round
      case rel => exact ⟨k + 1, by omega, by go_num⟩
      case measure => simp [intOf]; omega
    · obtain rfl : k = K := by omega
      have t2 := T2.out
      have hne : (wN b c k == c) = true := by simp [t2]
      clear t2
      go_wp2_with (go_at_call 14; (with_reducible refine (rbWait_yes k b c _ hk10 hc).mono ?_); rintro e w1 ⟨rfl, rfl⟩)
      go_ret2
      exact ⟨rfl, rfl⟩

theorem bFull_any (b c : Int) : ∃ x e : Int, (∀ w, Calls Try.prog 27 #[.int .i64 b, .int .i64 c] w fun en w' => en = .returned (.tuple #[.int .i64 x, .int .i64 e]) ∧ Below w.heap.size w w') ∧
   (∀ w, Calls Try.prog 28 #[.int .i64 b, .int .i64 c] w fun en w' => en = .returned (.tuple #[.int .i64 x, .int .i64 e]) ∧ w = w') := by
  by_cases h : chkW b c = 0
  · obtain ⟨q1, q2, q3⟩ := chkW_ok h
    obtain ⟨K, hK⟩ := fullAt q1 q2 q3
    exact ⟨K, 0, fun w => bFull_yes K b c w hK h, fun w => rbFull_yes K b c w hK h⟩
  · exact ⟨0, 3, fun w => bFull_no b c w h, fun w => rbFull_no b c w h⟩
end Go.Proofs.Ytocibljkmgffeaa
