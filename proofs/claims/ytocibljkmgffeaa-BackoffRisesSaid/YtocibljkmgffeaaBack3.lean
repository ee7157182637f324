/- The walks of package backoff: Wait. -/
import Derived.Test.YtocibljkmgffeaaBack2
namespace Go.Proofs.Ytocibljkmgffeaa
open Go.RowKit Go.Shelf Go.Proofs.Ytocibljkmgffeaa.Bk
attribute [local go_sem] Oper.semAt_some

set_option maxHeartbeats 1000000 in
theorem bWait_yes (S : Nat) (b c : Int) (w : World) (hs : S ≤ 1000) (hc : chkW b c = 0) :
    Calls Try.prog 13 #[.int .i64 S, .int .i64 b, .int .i64 c] w fun e w' => e = .returned (.tuple #[.int .i64 (wN b c S), .int .i64 0]) ∧ Below w.heap.size w w' := by
  obtain ⟨q1, q2, q3⟩ := chkW_ok hc
  have HB := Lib.hid (fun W => (callsIn_wide (n := 7)).2 (bCheck_any b c W))
  have HW := Lib.hid (fun W => (callsIn_wide (n := 7)).2 (waits_any b c W))
  refine (callsIn_wide (n := 8)).1 ?_
  refine callsIn_of_wp_marks Try.func13 rfl trivial ?_ rfl
  simp only [Try.ntmps13, List.size_toArray, List.length_cons, List.length_nil, Nat.reduceAdd, Nat.reduceSub, Array.replicate_succ, Array.replicate_zero, List.push_toArray, List.append_toArray, List.nil_append, List.cons_append]
  gi_wp2_with fail
  refine ⟨trivial, (HB.out _).mono ?_⟩
  rintro e w1 ⟨rfl, hb1⟩
  have B0 : w1.heap[w.heap.size]? = some _ := kb_below hb1 (by (repeat (with_reducible (first | assumption | (apply kb_new; (focus (simp; done))) | apply kb_alloc | apply kb_drew | apply kb_drewN | apply kb_set | (apply kb_far; (focus (first | (simp; done) | (simp; omega))))))))
  have c0 := kb_cell B0
  have z0 := kb_frozen B0
  have B1 : w1.heap[w.heap.size + 1]? = some _ := kb_below hb1 (by (repeat (with_reducible (first | assumption | (apply kb_new; (focus (simp; done))) | apply kb_alloc | apply kb_drew | apply kb_drewN | apply kb_set | (apply kb_far; (focus (first | (simp; done) | (simp; omega))))))))
  have c1 := kb_cell B1
  have z1 := kb_frozen B1
  have B2 : w1.heap[w.heap.size + 2]? = some _ := kb_below hb1 (by (repeat (with_reducible (first | assumption | (apply kb_new; (focus (simp; done))) | apply kb_alloc | apply kb_drew | apply kb_drewN | apply kb_set | (apply kb_far; (focus (first | (simp; done) | (simp; omega))))))))
  have c2 := kb_cell B2
  have z2 := kb_frozen B2
  have hS : decide ((S : Int) ≤ 1000) = true := by simp; omega
  have HA := Lib.hid (fun W k => (callsIn_wide (n := 7)).2 (all_any w1.heap.size 0 2 [true, true] W (by simp) k))
  gi_wp2_with fail
  refine ⟨trivial, (HA.out _ (fun k hk => cells_bools (bs := [true, true]) (kb_new rfl _) k hk)).mono ?_⟩
  rintro e w2 ⟨rfl, rfl⟩
  rw [show allB [true, true] = true from rfl]
  gi_wp2_with fail
  refine ⟨trivial, (HW.out _).mono ?_⟩
  rintro e w2 ⟨rfl, rfl⟩
  have b3 : Below w.heap.size w (((w1.alloc (.cells #[.bool true, .bool true] 4)).alloc (.cells #[.int .i64 b] 3)).alloc (.cells #[.int .i64 c] 3)) := by (repeat (with_reducible (first | exact Below.refl _ _ | assumption | refine bl_alloc ?_ _ | refine bl_drew ?_ | refine bl_drewN ?_ _ | (refine bl_set ?_ ?_ _; (focus (first | (simp; done) | (simp; omega) | omega))) | refine bl_then ?_ (by assumption))))
  gi_wp2_with fail
  have D0 : (((w1.alloc (.cells #[.bool true, .bool true] 4)).alloc (.cells #[.int .i64 b] 3)).alloc (.cells #[.int .i64 c] 3)).heap[w.heap.size]? = some _ := kb_alloc (kb_alloc (kb_alloc B0 _) _) _
  have D1 : (((w1.alloc (.cells #[.bool true, .bool true] 4)).alloc (.cells #[.int .i64 b] 3)).alloc (.cells #[.int .i64 c] 3)).heap[w.heap.size + 1]? = some _ := kb_alloc (kb_alloc (kb_alloc B1 _) _) _
  have D2 : (((w1.alloc (.cells #[.bool true, .bool true] 4)).alloc (.cells #[.int .i64 b] 3)).alloc (.cells #[.int .i64 c] 3)).heap[w.heap.size + 2]? = some _ := kb_alloc (kb_alloc (kb_alloc B2 _) _) _
  have D3 : (((w1.alloc (.cells #[.bool true, .bool true] 4)).alloc (.cells #[.int .i64 b] 3)).alloc (.cells #[.int .i64 c] 3)).heap[w1.heap.size + 1]? = some _ := kb_alloc (kb_new (by simp) _) _
  have D4 : (((w1.alloc (.cells #[.bool true, .bool true] 4)).alloc (.cells #[.int .i64 b] 3)).alloc (.cells #[.int .i64 c] 3)).heap[w1.heap.size + 1 + 1]? = some _ := kb_new (by simp) _
  have hsz : (((w1.alloc (.cells #[.bool true, .bool true] 4)).alloc (.cells #[.int .i64 b] 3)).alloc (.cells #[.int .i64 c] 3)).heap.size = w1.heap.size + 3 := by simp
  have hz := hb1.size
  simp only [World.size_alloc] at hz
  generalize (((w1.alloc (.cells #[.bool true, .bool true] 4)).alloc (.cells #[.int .i64 b] 3)).alloc (.cells #[.int .i64 c] 3)) = w3 at *
  have HS := Lib.hid hsz
  clear hsz
  refine wpIn_range_seq (I := fun k W => k ≤ S ∧ W.heap[w.heap.size]? = some (.cells #[.int .i64 S] 3) ∧ W.heap[w.heap.size + 1]? = some (.cells #[.int .i64 0] 3) ∧ W.heap[w.heap.size + 2]? = some (.cells #[.int .i64 0] 22) ∧ W.heap[w1.heap.size + 1]? = some (.cells #[.int .i64 b] 3) ∧ W.heap[w1.heap.size + 1 + 1]? = some (.cells #[.int .i64 c] 3) ∧ Below w.heap.size w W)
    (Ix := fun cd k W => cd = .ret ∧ k = S ∧ W.heap[w.heap.size + 1]? = some (.cells #[.int .i64 (wN b c S)] 3) ∧ W.heap[w.heap.size + 2]? = some (.cells #[.int .i64 0] 22) ∧ Below w.heap.size w W)
    (a₁ := fun k => { tmps := #[.int .i64 S, .int .i64 b, .int .i64 c, .pointer (some ⟨w.heap.size, 0, none⟩), undef, undef, .pointer (some ⟨w.heap.size + 1, 0, none⟩), .pointer (some ⟨w.heap.size + 1 + 1, 0, none⟩), .int .i64 0, .int .i64 k, .int .i64 (wN b c k), .int .i64 b, .int .i64 c, .int .i64 0, .int .i64 0, .bool false, undef, .int .i64 S, .bool true, .int .i64 S, .bool true, .slice (some ⟨w1.heap.size, 0, none⟩) 2 2, .bool true, .bool false, .int .i64 b, .int .i64 c, .func (.func 66) #[] #[.pointer (some ⟨w1.heap.size + 1, 0, none⟩), .pointer (some ⟨w1.heap.size + 1 + 1, 0, none⟩)], .int .i64 k, .int .i64 (wN b c k), undef, undef, undef, undef], defers := [] })
    rfl (by omega) (gf := 66) (lb := #[.pointer (some ⟨w1.heap.size + 1, 0, none⟩), .pointer (some ⟨w1.heap.size + 1 + 1, 0, none⟩)]) rfl trivial (enters_of Try.func66 (by kernel_rfl) rfl)
    (waits1_goes Fence.wide 7 trivial rfl (by omega) b c q1 q2 q3 (w1.heap.size + 1) (w1.heap.size + 1 + 1) S (by omega)) (fun _ => rfl) ?good ?keepI ?keepX ?start ?assign ?body ?stop
  case good =>
    intro A hA
    refine ⟨fun k W h => ⟨⟨h.1.1, h.1.2.1, h.1.2.2.1, h.1.2.2.2.1, h.1.2.2.2.2.1, h.1.2.2.2.2.2.1, h.1.2.2.2.2.2.2.drew⟩, hA W h.2⟩, fun k W h => h.1.1, fun k W h => ⟨kb_cell h.1.2.2.2.2.1 0, kb_cell h.1.2.2.2.2.2.1 0⟩⟩
  case keepI =>
    intro k W l o hl h
    have hs := HS.out
    exact ⟨h.1, kb_put h.2.1 (by omega) _, kb_put h.2.2.1 (by omega) _, kb_put h.2.2.2.1 (by omega) _, kb_put h.2.2.2.2.1 (by omega) _, kb_put h.2.2.2.2.2.1 (by omega) _, bl_put h.2.2.2.2.2.2 (by omega) _⟩
  case keepX =>
    intro cd k W l o hl h
    have hs := HS.out
    exact ⟨h.1, h.2.1, kb_put h.2.2.1 (by omega) _, kb_put h.2.2.2.1 (by omega) _, bl_put h.2.2.2.2 (by omega) _⟩
  case start =>
    intro o o'
    exact ⟨by omega, kb_alloc (kb_alloc D0 _) _, kb_alloc (kb_alloc D1 _) _, kb_alloc (kb_alloc D2 _) _, kb_alloc (kb_alloc D3 _) _, kb_alloc (kb_alloc D4 _) _, by (repeat (with_reducible (first | exact Below.refl _ _ | assumption | refine bl_alloc ?_ _ | refine bl_drew ?_ | refine bl_drewN ?_ _ | (refine bl_set ?_ ?_ _; (focus (first | (simp; done) | (simp; omega) | omega))) | refine bl_then ?_ (by assumption))))⟩
  case assign =>
    intro l k W K hK
    gi_wp2
    exact hK
  case body =>
    rintro l k W rfl hlt ⟨h1, h2, h3, h4, h5, h6, h7⟩
    have hs := HS.out
    have c0 := kb_cell h2
    have c1 := kb_cell h3
    have c2 := kb_cell h4
    have z1 := kb_frozen h3
    have z2 := kb_frozen h4
    have n1 : w3.heap.size + 1 ≠ w.heap.size + 1 := by omega
    have n2 : w3.heap.size + 1 ≠ w.heap.size + 2 := by omega
    have n3 : w3.heap.size ≠ w.heap.size + 1 := by omega
    have n4 : w3.heap.size ≠ w.heap.size + 2 := by omega
    have hs' := Lib.hid hs
    clear hs
    by_cases hk : k = S
    · subst hk
      gi_wp2
      refine ⟨⟨?_, ?_⟩, rfl, rfl, ?_, ?_, ?_⟩
      · exact (Below.heap_setCell _ _ _ _ n2).trans (Below.heap_setCell _ _ _ _ n1)
      · exact (Below.heap_setCell _ _ _ _ n4).trans (Below.heap_setCell _ _ _ _ n3)
      · exact kb_far (kb_set h3 _) (by simp) _
      · exact kb_set (kb_far h4 (by simp) _) _
      · (repeat (with_reducible (first | exact Below.refl _ _ | assumption | refine bl_alloc ?_ _ | refine bl_drew ?_ | refine bl_drewN ?_ _ | (refine bl_set ?_ ?_ _; (focus (first | (simp; done) | (simp; omega) | omega))) | refine bl_then ?_ (by assumption))))
    · have hne : ((k : Int) == (S : Int)) = false := by simp; omega
      clear hk
      gi_wp2
      exact ⟨⟨rfl, rfl⟩, by simp at hne; omega, h2, h3, h4, h5, h6, h7⟩
  case stop =>
    rintro cd k W ⟨rfl, rfl, h3, h4, h7⟩ hD
    have hs := HS.out
    gi_wp2
    refine ⟨by simp, .inl ⟨_, _, rfl, run_takeDeferred hD, ?_⟩⟩
    have g3 := kb_cell (kb_put h3 (l := w3.heap.size) (by omega) (.deferred none))
    have g4 := kb_cell (kb_put h4 (l := w3.heap.size) (by omega) (.deferred none))
    exact ⟨.tuple #[.int .i64 (wN b c k), .int .i64 0], by simp [results, Try.f13, go_sem, g3, g4], rfl, bl_put h7 (by omega) _⟩
end Go.Proofs.Ytocibljkmgffeaa
