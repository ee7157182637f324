/- The walks of package backoff: All, Full. -/
import Derived.Test.YtocibljkmgffeaaBack4
import Derived.WalkMore
namespace Go.Proofs.Ytocibljkmgffeaa
open Go.RowKit Go.Shelf Go.Proofs.Ytocibljkmgffeaa.Bk
attribute [local go_sem] Oper.semAt_some cell_alloc_some frozen_alloc_some

set_option maxHeartbeats 1000000 in
theorem bAll_yes (S : Nat) (b c : Int) (w : World) (hs : S ≤ 1000) (hc : chkW b c = 0) :
    Calls Try.prog 25 #[.int .i64 S, .int .i64 b, .int .i64 c] w fun e w' => e = .returned (.tuple #[.int .i64 (sN b c S), .int .i64 0]) ∧ Below w.heap.size w w' := by
  obtain ⟨q1, q2, q3⟩ := chkW_ok hc
  refine (callsIn_wide (n := 8)).1 ?_
  refine callsIn_of_wp_marks Try.func25 rfl trivial ?_ rfl
  simp only [Try.ntmps25, List.size_toArray, List.length_cons, List.length_nil, Nat.reduceAdd, Nat.reduceSub, Array.replicate_succ, Array.replicate_zero, List.push_toArray, List.append_toArray, List.nil_append, List.cons_append]
  refine wpIn_wide.2 ?_
  go_wp2
  go_step3
  go_wp2_with (go_at_call 13; (with_reducible refine (bWait_yes S b c _ hs hc).mono ?_); rintro e w1 ⟨rfl, hb1⟩; have hz1 := hb1.size; have B0 : w1.heap[w.heap.size]? = some _ := kb_below hb1 (by (repeat (with_reducible (first | assumption | (apply kb_new; (focus (simp; done))) | apply kb_alloc | apply kb_drew | apply kb_drewN | apply kb_set | (apply kb_far; (focus (first | (simp; done) | (simp; omega)))))))); have c0 := kb_cell B0; have z0 := kb_frozen B0; have B1 : w1.heap[w.heap.size + 1]? = some _ := kb_below hb1 (by (repeat (with_reducible (first | assumption | (apply kb_new; (focus (simp; done))) | apply kb_alloc | apply kb_drew | apply kb_drewN | apply kb_set | (apply kb_far; (focus (first | (simp; done) | (simp; omega)))))))); have c1 := kb_cell B1; have z1 := kb_frozen B1)
  go_step3
  go_wp2_with fail
  refine (waits_any b c _).mono ?_
  rintro e w2 ⟨rfl, rfl⟩
  have b3 : Below w.heap.size w ((w1.alloc (.cells #[.int .i64 b] 3)).alloc (.cells #[.int .i64 c] 3)) := by (repeat (with_reducible (first | exact Below.refl _ _ | assumption | refine bl_alloc ?_ _ | refine bl_drew ?_ | refine bl_drewN ?_ _ | (refine bl_set ?_ ?_ _; (focus (first | (simp; done) | (simp; omega) | omega))) | refine bl_then ?_ (by assumption))))
  go_wp2
  have D0 : ((w1.alloc (.cells #[.int .i64 b] 3)).alloc (.cells #[.int .i64 c] 3)).heap[w.heap.size]? = some _ := kb_alloc (kb_alloc B0 _) _
  have D1 : ((w1.alloc (.cells #[.int .i64 b] 3)).alloc (.cells #[.int .i64 c] 3)).heap[w.heap.size + 1]? = some _ := kb_alloc (kb_alloc B1 _) _
  have D3 : ((w1.alloc (.cells #[.int .i64 b] 3)).alloc (.cells #[.int .i64 c] 3)).heap[w1.heap.size]? = some _ := kb_alloc (kb_new rfl _) _
  have D4 : ((w1.alloc (.cells #[.int .i64 b] 3)).alloc (.cells #[.int .i64 c] 3)).heap[w1.heap.size + 1]? = some _ := kb_new (by simp) _
  have hsz : ((w1.alloc (.cells #[.int .i64 b] 3)).alloc (.cells #[.int .i64 c] 3)).heap.size = w1.heap.size + 2 := by simp
  have hz := hb1.size
  simp only [World.size_alloc] at hz
  generalize ((w1.alloc (.cells #[.int .i64 b] 3)).alloc (.cells #[.int .i64 c] 3)) = w3 at *
  have HS := Lib.hid hsz
  clear hsz
  refine (wpIn_wide (n := 8)).1 ?_
  refine wpIn_range_seq (I := fun k W => k ≤ S ∧ W.heap[w.heap.size]? = some (.cells #[.int .i64 S] 3) ∧ W.heap[w.heap.size + 1]? = some (.cells #[.int .i64 (sN b c k)] 3) ∧ W.heap[w1.heap.size]? = some (.cells #[.int .i64 b] 3) ∧ W.heap[w1.heap.size + 1]? = some (.cells #[.int .i64 c] 3) ∧ Below w.heap.size w W)
    (Ix := fun cd k W => cd = .exit 0 ∧ k = S ∧ W.heap[w.heap.size + 1]? = some (.cells #[.int .i64 (sN b c S)] 3) ∧ Below w.heap.size w W)
    (a₁ := fun k => { tmps := #[.int .i64 S, .int .i64 b, .int .i64 c, .pointer (some ⟨w.heap.size, 0, none⟩), undef, undef, .pointer (some ⟨w.heap.size + 1, 0, none⟩), .int .i64 0, .int .i64 (wN b c S), .int .i64 0, .int .i64 k, .int .i64 (wN b c k), .tuple #[.int .i64 (wN b c S), .int .i64 0], .int .i64 S, .int .i64 b, .int .i64 c, .tuple #[.int .i64 (wN b c S), .int .i64 0], .int .i64 (wN b c S), .int .i64 0, .int .i64 0, .bool false, undef, .int .i64 b, .int .i64 c, .func (.func 66) #[] #[.pointer (some ⟨w1.heap.size, 0, none⟩), .pointer (some ⟨w1.heap.size + 1, 0, none⟩)], .int .i64 k, .int .i64 (wN b c k), undef, undef, undef, undef, undef, undef, undef], defers := [] })
    rfl (by omega) (gf := 66) (lb := #[.pointer (some ⟨w1.heap.size, 0, none⟩), .pointer (some ⟨w1.heap.size + 1, 0, none⟩)]) rfl trivial (enters_of Try.func66 (by kernel_rfl) rfl)
    (waits1_goes Fence.wide 7 trivial rfl (by omega) b c q1 q2 q3 (w1.heap.size) (w1.heap.size + 1) S (by omega)) (fun _ => rfl) ?good ?keepI ?keepX ?start ?assign ?body ?stop
  case good =>
    intro A hA
    refine ⟨fun k W h => ⟨⟨h.1.1, h.1.2.1, h.1.2.2.1, h.1.2.2.2.1, h.1.2.2.2.2.1, h.1.2.2.2.2.2.drew⟩, hA W h.2⟩, fun k W h => h.1.1, fun k W h => ⟨kb_cell h.1.2.2.2.1 0, kb_cell h.1.2.2.2.2.1 0⟩⟩
  case keepI =>
    intro k W l o hl h
    have hs := HS.out
    exact ⟨h.1, kb_put h.2.1 (by omega) _, kb_put h.2.2.1 (by omega) _, kb_put h.2.2.2.1 (by omega) _, kb_put h.2.2.2.2.1 (by omega) _, bl_put h.2.2.2.2.2 (by omega) _⟩
  case keepX =>
    intro cd k W l o hl h
    have hs := HS.out
    exact ⟨h.1, h.2.1, kb_put h.2.2.1 (by omega) _, bl_put h.2.2.2 (by omega) _⟩
  case start =>
    intro o o'
    exact ⟨by omega, kb_alloc (kb_alloc D0 _) _, kb_alloc (kb_alloc D1 _) _, kb_alloc (kb_alloc D3 _) _, kb_alloc (kb_alloc D4 _) _, by (repeat (with_reducible (first | exact Below.refl _ _ | assumption | refine bl_alloc ?_ _ | refine bl_drew ?_ | refine bl_drewN ?_ _ | (refine bl_set ?_ ?_ _; (focus (first | (simp; done) | (simp; omega) | omega))) | refine bl_then ?_ (by assumption))))⟩
  case assign =>
    intro l k W K hK
    gi_wp2
    exact hK
  case body =>
    rintro l k W rfl hlt ⟨h1, h2, h3, h4, h5, h7⟩
    have hs := HS.out
    have c0 := kb_cell h2
    have c1 := kb_cell h3
    have z1 := kb_frozen h3
    have n1 : w3.heap.size + 1 ≠ w.heap.size + 1 := by omega
    have n3 : w3.heap.size ≠ w.heap.size + 1 := by omega
    have n5 : w.heap.size ≠ w.heap.size + 1 := by omega
    have n6 : w1.heap.size ≠ w.heap.size + 1 := by omega
    have n7 : w1.heap.size + 1 ≠ w.heap.size + 1 := by omega
    have hs' := Lib.hid hs
    clear hs
    obtain ⟨y1, y2⟩ := sN_bd q1 q2 k
    obtain ⟨x1, x2⟩ := wN_bd q1 q2 k
    have y3 : sN b c k ≤ 1048576000 := by
      have : (k : Int) * c ≤ 1000 * 1048576 := Int.mul_le_mul (by omega) q3 (by omega) (by omega)
      omega
    clear y2
    by_cases hk : k = S
    · subst hk
      gi_wp2
      exact ⟨⟨rfl, rfl⟩, rfl, rfl, h3, h7⟩
    · have hne : ((k : Int) == (S : Int)) = false := by simp; omega
      have hk' := Lib.hid hk
      clear hk
      gi_wp2
      have hk := hk'.out
      refine ⟨⟨?_, ?_⟩, by omega, ?_, ?_, ?_, ?_, ?_⟩
      · exact Below.heap_setCell _ _ _ _ n1
      · exact Below.heap_setCell _ _ _ _ n3
      · exact kb_far h2 (by simp) _
      · exact kb_set h3 _
      · exact kb_far h4 (by simp; omega) _
      · exact kb_far h5 (by simp; omega) _
      · (repeat (with_reducible (first | exact Below.refl _ _ | assumption | refine bl_alloc ?_ _ | refine bl_drew ?_ | refine bl_drewN ?_ _ | (refine bl_set ?_ ?_ _; (focus (first | (simp; done) | (simp; omega) | omega))) | refine bl_then ?_ (by assumption))))
  case stop =>
    rintro cd k W ⟨rfl, rfl, h3, h7⟩ hD
    have hs := HS.out
    clear c1 z1 B1 D1
    have c1 := kb_cell h3
    have z1 := kb_frozen h3
    gi_wp2
    go_wp2
    rw [Exit.noGoto_ret]
    have n3 : w3.heap.size ≠ w.heap.size + 1 := by omega
    have hD2 := kb_far hD (p := ⟨w.heap.size + 1, 0, none⟩) n3 (.int .i64 (sN b c k))
    have h4 := kb_set (i := 0) h3 (.int .i64 (sN b c k))
    have b4 : Below w.heap.size w (W.setCell ⟨w.heap.size + 1, 0, none⟩ (.int .i64 (sN b c k))) := by (repeat (with_reducible (first | exact Below.refl _ _ | assumption | refine bl_alloc ?_ _ | refine bl_drew ?_ | refine bl_drewN ?_ _ | (refine bl_set ?_ ?_ _; (focus (first | (simp; done) | (simp; omega) | omega))) | refine bl_then ?_ (by assumption))))
    refine ⟨by simp, .inl ⟨_, _, rfl, run_takeDeferred hD2, ?_⟩⟩
    have g3 := kb_cell (kb_put h4 (l := w3.heap.size) n3.symm (.deferred none))
    exact ⟨.tuple #[.int .i64 (sN b c k), .int .i64 0], by simp [results, Try.f25, go_sem, g3], rfl, bl_put b4 (by omega) _⟩
end Go.Proofs.Ytocibljkmgffeaa
