/- The walks of package flight: Sent. -/
import Derived.Test.YtfbgnimkjflffaaFly9
namespace Go.Proofs.Ytfbgnimkjflffaa
open Go.RowKit Go.Maps Go.Shelf
attribute [local go_sem] Oper.semAt_some cell_alloc_some frozen_alloc_some

theorem filt_all (L : List Rq) : L.filter askAll = L := by simp [askAll]

set_option maxHeartbeats 1000000 in
theorem fSent_any (B p m : Nat) (n : Int) (s : Value) (L : List Rq) (w : World) (F : Fl w B p m n s L) (hL : L.length ≤ 1000) :
    Calls Try.prog 14 #[.pointer (some ⟨p, 0, none⟩)] w fun e w' => ∃ v, e = .returned v ∧ w'.ownsRow w.heap.size 29 5 v L.length (rqs L) ∧ Below w.heap.size w w' := by
  refine (callsIn_wide (n := 8)).1 ?_
  refine callsIn_of_wp_marks Try.func14 rfl trivial ?_ rfl
  simp only [Try.ntmps14, List.size_toArray, List.length_cons, List.length_nil, Nat.reduceAdd, Nat.reduceSub, Array.replicate_succ, Array.replicate_zero, List.push_toArray, List.append_toArray, List.nil_append, List.cons_append]
  gi_wp2_with fail
  refine ⟨trivial, ((callsIn_wide (n := 7)).2 (some_any p 23 (-1) _)).mono ?_⟩
  rintro e w1 ⟨rfl, rfl⟩
  gi_wp2_with fail
  have b3 : Below w.heap.size w (((w.alloc (.cells #[.slice none 0 0] 36)).alloc (.cells #[.pointer (some ⟨p, 0, none⟩)] 22)).alloc (.cells #[.func (.func 23) #[.int .i64 (-1)] #[]] 60)) := by (repeat (with_reducible (first | exact Below.refl _ _ | assumption | refine bl_alloc ?_ _ | refine bl_drew ?_ | refine bl_drewN ?_ _ | (refine bl_set ?_ ?_ _; (focus (first | (simp; done) | (simp; omega) | omega))) | refine bl_then ?_ (by assumption))))
  have D0 : (((w.alloc (.cells #[.slice none 0 0] 36)).alloc (.cells #[.pointer (some ⟨p, 0, none⟩)] 22)).alloc (.cells #[.func (.func 23) #[.int .i64 (-1)] #[]] 60)).heap[w.heap.size]? = some _ := kb_alloc (kb_alloc (kb_new rfl _) _) _
  have D1 : (((w.alloc (.cells #[.slice none 0 0] 36)).alloc (.cells #[.pointer (some ⟨p, 0, none⟩)] 22)).alloc (.cells #[.func (.func 23) #[.int .i64 (-1)] #[]] 60)).heap[w.heap.size + 1]? = some _ := kb_alloc (kb_new (by simp) _) _
  have D2 : (((w.alloc (.cells #[.slice none 0 0] 36)).alloc (.cells #[.pointer (some ⟨p, 0, none⟩)] 22)).alloc (.cells #[.func (.func 23) #[.int .i64 (-1)] #[]] 60)).heap[w.heap.size + 1 + 1]? = some _ := kb_new (by simp) _
  have hsz : (((w.alloc (.cells #[.slice none 0 0] 36)).alloc (.cells #[.pointer (some ⟨p, 0, none⟩)] 22)).alloc (.cells #[.func (.func 23) #[.int .i64 (-1)] #[]] 60)).heap.size = w.heap.size + 3 := by simp
  generalize (((w.alloc (.cells #[.slice none 0 0] 36)).alloc (.cells #[.pointer (some ⟨p, 0, none⟩)] 22)).alloc (.cells #[.func (.func 23) #[.int .i64 (-1)] #[]] 60)) = w3 at *
  have HS := Lib.hid hsz
  clear hsz
  obtain ⟨M, hM⟩ : ∃ M, L.filter askAll = M := ⟨_, rfl⟩
  have hML : L = M := by rw [← hM]; exact (filt_all L).symm
  have hMl : M.length ≤ 1000 := by have := List.length_filter_le askAll L; rw [hM] at this; omega
  obtain ⟨i0, hi, hz0, hz1, hz2⟩ := info_parts infoR
  refine wpIn_range_ends (I := fun k W => (∃ v, W.heap[w.heap.size]? = some (.cells #[v] 36) ∧ W.ownsRow w.heap.size 29 5 v k (rqs (M.take k))) ∧ W.heap[w.heap.size + 1]? = some (.cells #[.pointer (some ⟨p, 0, none⟩)] 22) ∧ W.heap[w.heap.size + 1 + 1]? = some (.cells #[.func (.func 23) #[.int .i64 (-1)] #[]] 60) ∧ Below w.heap.size w W)
    (Ax := fun k a' W => (∃ q, a' = { tmps := #[.pointer (some ⟨p, 0, none⟩), undef, .pointer (some ⟨w.heap.size, 0, none⟩), .pointer (some ⟨q, 0, none⟩), .pointer (some ⟨p, 0, none⟩), .func (.func 23) #[.int .i64 (-1)] #[], .func (.func 26) #[] #[.pointer (some ⟨w.heap.size + 1, 0, none⟩), .pointer (some ⟨w.heap.size + 1 + 1, 0, none⟩)], (M.getD k ⟨0, 0, 0, 0, false⟩).val, undef, undef, undef, undef, undef], defers := [] } ∧ W.heap[q]? = some (.cells (M.getD k ⟨0, 0, 0, 0, false⟩).cells.toArray 29)) ∧ (∃ v, W.heap[w.heap.size]? = some (.cells #[v] 36) ∧ W.ownsRow w.heap.size 29 5 v k (rqs (M.take k))) ∧ W.heap[w.heap.size + 1]? = some (.cells #[.pointer (some ⟨p, 0, none⟩)] 22) ∧ W.heap[w.heap.size + 1 + 1]? = some (.cells #[.func (.func 23) #[.int .i64 (-1)] #[]] 60) ∧ Below w.heap.size w W)
    rfl (by omega) (gf := 26) (lb := #[.pointer (some ⟨w.heap.size + 1, 0, none⟩), .pointer (some ⟨w.heap.size + 1 + 1, 0, none⟩)]) rfl trivial (enters_of Try.func26 (by kernel_rfl) rfl)
    (hM ▸ some1_ends B p m 23 n (-1) s L askAll (fun r W => wall_any (-1) r W) (enters_of Try.func23 (by kernel_rfl) rfl) (w.heap.size + 1) (w.heap.size + 1 + 1) hL) (fun _ => rfl) ?good ?keepI ?keepX ?start ?assign ?body ?done
  case good =>
    intro A hA
    exact ⟨fun k W W' ⟨⟨⟨v, h1, h2⟩, h3, h4, h5⟩, h6⟩ hb => ⟨⟨⟨v, kb_below hb h1, (Keep.of_below (S := fun _ => False) hb).row h2 (fun _ _ x => x)⟩, kb_below hb h3, kb_below hb h4, bl_then h5 hb⟩, hA W W' h6 hb⟩, fun k W h => ⟨F.below h.1.2.2.2, h.1.2.1, h.1.2.2.1⟩⟩
  case keepI =>
    rintro k W l r o hl hlr ⟨⟨v, h1, h2⟩, h3, h4, h5⟩
    have hs := HS.out
    exact ⟨⟨v, kb_loop h1 hlr _, own_loop h2 hlr _⟩, kb_loop h3 hlr _, kb_loop h4 hlr _, bl_put h5 (by omega) _⟩
  case keepX =>
    rintro k a' W l r o hl hlr ⟨⟨q, e, h0⟩, ⟨v, h1, h2⟩, h3, h4, h5⟩
    have hs := HS.out
    exact ⟨⟨q, e, kb_loop h0 hlr _⟩, ⟨v, kb_loop h1 hlr _, own_loop h2 hlr _⟩, kb_loop h3 hlr _, kb_loop h4 hlr _, bl_put h5 (by omega) _⟩
  case start =>
    intro o o'
    exact ⟨⟨_, kb_alloc (kb_alloc D0 _) _, World.ownsRow_nil _ _ _ _⟩, kb_alloc (kb_alloc D1 _) _, kb_alloc (kb_alloc D2 _) _, by (repeat (with_reducible (first | exact Below.refl _ _ | assumption | refine bl_alloc ?_ _ | refine bl_drew ?_ | refine bl_drewN ?_ _ | (refine bl_set ?_ ?_ _; (focus (first | (simp; done) | (simp; omega) | omega))) | refine bl_then ?_ (by assumption))))⟩
  case assign =>
    rintro l k W K hk ⟨⟨v, h1, h2⟩, h3, h4, h5⟩ hK
    have hq : enR askAll L k = #[(M.getD k ⟨0, 0, 0, 0, false⟩).val] := by unfold enR; rw [hM]
    rw [hq]
    generalize M.getD k ⟨0, 0, 0, 0, false⟩ = r at *
    have HK := Lib.hid hK
    obtain ⟨id, to, h, a, o⟩ := r
    unfold Rq.val at *
    clear hK
    gi_wp2
    refine HK.out _ _ (by (repeat (with_reducible (first | exact Below.refl _ _ | assumption | refine bl_alloc ?_ _ | refine bl_drew ?_ | refine bl_drewN ?_ _ | (refine bl_set ?_ ?_ _; (focus (first | (simp; done) | (simp; omega) | omega))) | refine bl_then ?_ (by assumption))))) ⟨⟨_, rfl, kb_new rfl _⟩, ⟨v, kb_alloc h1 _, h2.alloc _⟩, kb_alloc h3 _, kb_alloc h4 _, bl_alloc h5 _⟩
  case body =>
    rintro l k a' W r rfl hlt hlr hdr hk ⟨⟨q, rfl, h0⟩, ⟨v, h1, h2⟩, h3, h4, h5⟩
    have hs := HS.out
    have hmn := Lib.hid (take_getD M ⟨0, 0, 0, 0, false⟩ k hk)
    obtain ⟨A, cap, rfl⟩ := owns_slice h2
    obtain ⟨R, hR⟩ : ∃ R, M.getD k ⟨0, 0, 0, 0, false⟩ = R := ⟨_, rfl⟩
    rw [hR] at h0
    have HR := Lib.hid hR
    have cq := kb_cell h0
    simp only [Rq.cells] at cq
    have c0 := kb_cell h1
    have z0 := kb_frozen h1
    have hk1 : k ≤ 1000 := by omega
    have n1 : w3.heap.size + 1 ≠ w.heap.size := by omega
    have n2 : w3.heap.size ≠ w.heap.size := by omega
    have n3 := own_ne h2 h1 (by decide)
    have n4 := own_ne h2 h3 (by decide)
    have n5 := own_ne h2 h4 (by decide)
    have n6 := own_ne_loop h2 hlr
    have n7 := own_ne_defd h2 hdr
    have hws : w.heap.size ≤ W.heap.size := h5.size
    have hq := kb_lt h0
    have hs' := Lib.hid hs
    have hk' := Lib.hid hk
    rw [hR]
    clear hs hk D0 D1 D2 hR
    obtain ⟨id, to, h, a, o⟩ := R
    unfold Rq.val
    gi_wp2_with (gi_at_builtin; refine wpListIn_append_own _ rfl _ _ 36 rfl w.heap.size 29 i0 (.agg #[.int .i64 0, .int .i64 0, .int .i64 0, .int .i64 0, .bool false]) 5 40 Try.underlying36 hi hz0 hz1 hz2 rfl (by decide) _ _ _ rfl (h2.alloc _) ⟨W.heap.size, 0, none⟩ 1 1 [.int .i64 id, .int .i64 to, .int .i64 h, .int .i64 a, .bool o] rfl rfl (five_new _ _ _ _ _ _ _) ?c2 ?c3 ?c4 ?c5 ?_)
    case c2 => exact ⟨rfl, rfl, rfl, rfl, rfl⟩
    case c3 => unfold maxLen; omega
    case c4 => omega
    case c5 => first | omega | (simp; omega)
    intro v' w5 hown' hgrow _
    obtain ⟨A', cap', hv'⟩ := owns_slice hown'
    subst hv'
    have g1 : w5.heap[w.heap.size]? = some _ := (hgrow.block _ (by have := kb_lt h1; simp; omega) (fun e => n3 e.symm)).trans (kb_alloc h1 _)
    have g3 : w5.heap[w.heap.size + 1]? = some _ := (hgrow.block _ (by have := kb_lt h3; simp; omega) (fun e => n4 e.symm)).trans (kb_alloc h3 _)
    have g4 : w5.heap[w.heap.size + 1 + 1]? = some _ := (hgrow.block _ (by have := kb_lt h4; simp; omega) (fun e => n5 e.symm)).trans (kb_alloc h4 _)
    have g5 : w5.heap[w3.heap.size + 1]? = W.heap[w3.heap.size + 1]? := (hgrow.block _ (by simp; omega) (fun e => n6 e.symm)).trans (Below.heap_alloc _ _ _ hlt)
    have g6 : w5.heap[w3.heap.size]? = W.heap[w3.heap.size]? := (hgrow.block _ (by simp; omega) (fun e => n7 e.symm)).trans (Below.heap_alloc _ _ _ (by omega))
    have b5 : Below w.heap.size w w5 := (bl_alloc h5 _).grown hgrow (by simp; omega) (fun j hj => (h2.lt j hj).1)
    have gg := own_ne hown' g1 (by decide)
    have G := Lib.hid hgrow
    clear hgrow c0 z0 cq n3 n4 n5 n6 n7
    have c0 := kb_cell g1
    have z0 := kb_frozen g1
    gi_wp2
    have hm := hmn.out
    rw [HR.out] at hm
    refine ⟨⟨(Below.heap_setCell _ _ _ _ n1).trans g5, (Below.heap_setCell _ _ _ _ n2).trans g6⟩, ⟨_, kb_set g1 _, ?_⟩, kb_far g3 (by simp) _, kb_far g4 (by simp; omega) _, by (repeat (with_reducible (first | exact Below.refl _ _ | assumption | refine bl_alloc ?_ _ | refine bl_drew ?_ | refine bl_drewN ?_ _ | (refine bl_set ?_ ?_ _; (focus (first | (simp; done) | (simp; omega) | omega))) | refine bl_then ?_ (by assumption))))⟩
    rw [hm]
    have hh : rqs (M.take k ++ [(⟨id, to, h, a, o⟩ : Rq)]) = rqs (M.take k) ++ [.int .i64 id, .int .i64 to, .int .i64 h, .int .i64 a, .bool o] := by rw [rqs_snoc]; rfl
    rw [hh]
    exact hown'.kept (row := some w.heap.size) ⟨rfl, rfl, rfl, by simp, fun b _ hb => Below.heap_setCell _ _ _ _ (fun e => hb (by rw [e]))⟩ (.inr gg)
  case done =>
    rintro W ⟨⟨v, h1, h2⟩, h3, h4, h5⟩ hD
    have hs := HS.out
    obtain ⟨A, cap, rfl⟩ := owns_slice h2
    have c0 := kb_cell h1
    have z0 := kb_frozen h1
    have n2 : w3.heap.size ≠ w.heap.size := by omega
    have n3 := own_ne h2 h1 (by decide)
    have hs' := Lib.hid hs
    have H2 := Lib.hid h2
    clear hs D0 D1 D2 h2
    gi_wp2
    have hD2 := kb_far hD (p := ⟨w.heap.size, 0, none⟩) n2 (.slice A M.length cap)
    have h5' := kb_set (i := 0) h1 (.slice A M.length cap)
    have b4 : Below w.heap.size w (W.setCell ⟨w.heap.size, 0, none⟩ (.slice A M.length cap)) := by (repeat (with_reducible (first | exact Below.refl _ _ | assumption | refine bl_alloc ?_ _ | refine bl_drew ?_ | refine bl_drewN ?_ _ | (refine bl_set ?_ ?_ _; (focus (first | (simp; done) | (simp; omega) | omega))) | refine bl_then ?_ (by assumption))))
    refine ⟨by simp, .inl ⟨_, _, rfl, run_takeDeferred hD2, ?_⟩⟩
    have g3 := kb_cell (kb_put h5' (l := w3.heap.size) n2.symm (.deferred none))
    have r1 : (W.setCell ⟨w.heap.size, 0, none⟩ (.slice A M.length cap)).ownsRow w.heap.size 29 5 (.slice A M.length cap) M.length (rqs (M.take M.length)) :=
      H2.out.kept (row := some w.heap.size) ⟨rfl, rfl, rfl, by simp, fun b _ hb => Below.heap_setCell _ _ _ _ (fun e => hb (by rw [e]))⟩ (.inr n3)
    refine ⟨.slice A M.length cap, by simp [results, Try.f14, go_sem, g3], _, rfl, ?_, bl_put b4 (by have := hs'.out; omega) _⟩
    rw [List.take_length] at r1
    rw [hML]
    exact own_defd r1 hD2 _
end Go.Proofs.Ytfbgnimkjflffaa
