/- The walks of package flight: Open, Sent, Count. -/
import Derived.Test.YtfbgnimkjflffaaFly8
namespace Go.Proofs.Ytfbgnimkjflffaa
open Go.RowKit Go.Maps Go.Shelf
attribute [local go_sem] Oper.semAt_some cell_alloc_some frozen_alloc_some

set_option maxHeartbeats 400000 in
theorem some_any (p A : Nat) (who : Int) (w : World) :
    Calls Try.prog 22 #[.pointer (some ⟨p, 0, none⟩), .func (.func A) #[.int .i64 who] #[]] w fun e w' => e = .returned (.func (.func 26) #[] #[.pointer (some ⟨w.heap.size, 0, none⟩), .pointer (some ⟨w.heap.size + 1, 0, none⟩)]) ∧
      (w.alloc (.cells #[.pointer (some ⟨p, 0, none⟩)] 22)).alloc (.cells #[.func (.func A) #[.int .i64 who] #[]] 60) = w' := by
  go_enter Try.func22, Try.ntmps22
  go_wp2
  go_ret
  exact ⟨rfl, rfl⟩

set_option maxHeartbeats 1000000 in
theorem fCount_any (B p m : Nat) (n who : Int) (s : Value) (L : List Rq) (w : World) (F : Fl w B p m n s L) (hL : L.length ≤ 1000) :
    Calls Try.prog 21 #[.pointer (some ⟨p, 0, none⟩), .int .i64 who] w fun e w' => e = .returned (.int .i64 ((L.filter (askHas who)).length)) ∧ Below w.heap.size w w' := by
  refine (callsIn_wide (n := 8)).1 ?_
  refine callsIn_of_wp_marks Try.func21 rfl trivial ?_ rfl
  simp only [Try.ntmps21, List.size_toArray, List.length_cons, List.length_nil, Nat.reduceAdd, Nat.reduceSub, Array.replicate_succ, Array.replicate_zero, List.push_toArray, List.append_toArray, List.nil_append, List.cons_append]
  gi_wp2_with fail
  refine ⟨trivial, ((callsIn_wide (n := 7)).2 (some_any p 25 who _)).mono ?_⟩
  rintro e w1 ⟨rfl, rfl⟩
  gi_wp2_with fail
  have b3 : Below w.heap.size w (((w.alloc (.cells #[.int .i64 0] 3)).alloc (.cells #[.pointer (some ⟨p, 0, none⟩)] 22)).alloc (.cells #[.func (.func 25) #[.int .i64 who] #[]] 60)) := by (repeat (with_reducible (first | exact Below.refl _ _ | assumption | refine bl_alloc ?_ _ | refine bl_drew ?_ | refine bl_drewN ?_ _ | (refine bl_set ?_ ?_ _; (focus (first | (simp; done) | (simp; omega) | omega))) | refine bl_then ?_ (by assumption))))
  have D0 : (((w.alloc (.cells #[.int .i64 0] 3)).alloc (.cells #[.pointer (some ⟨p, 0, none⟩)] 22)).alloc (.cells #[.func (.func 25) #[.int .i64 who] #[]] 60)).heap[w.heap.size]? = some _ := kb_alloc (kb_alloc (kb_new rfl _) _) _
  have D1 : (((w.alloc (.cells #[.int .i64 0] 3)).alloc (.cells #[.pointer (some ⟨p, 0, none⟩)] 22)).alloc (.cells #[.func (.func 25) #[.int .i64 who] #[]] 60)).heap[w.heap.size + 1]? = some _ := kb_alloc (kb_new (by simp) _) _
  have D2 : (((w.alloc (.cells #[.int .i64 0] 3)).alloc (.cells #[.pointer (some ⟨p, 0, none⟩)] 22)).alloc (.cells #[.func (.func 25) #[.int .i64 who] #[]] 60)).heap[w.heap.size + 1 + 1]? = some _ := kb_new (by simp) _
  have hsz : (((w.alloc (.cells #[.int .i64 0] 3)).alloc (.cells #[.pointer (some ⟨p, 0, none⟩)] 22)).alloc (.cells #[.func (.func 25) #[.int .i64 who] #[]] 60)).heap.size = w.heap.size + 3 := by simp
  generalize (((w.alloc (.cells #[.int .i64 0] 3)).alloc (.cells #[.pointer (some ⟨p, 0, none⟩)] 22)).alloc (.cells #[.func (.func 25) #[.int .i64 who] #[]] 60)) = w3 at *
  have HS := Lib.hid hsz
  clear hsz
  refine wpIn_range_ends (I := fun k W => W.heap[w.heap.size]? = some (.cells #[.int .i64 k] 3) ∧ W.heap[w.heap.size + 1]? = some (.cells #[.pointer (some ⟨p, 0, none⟩)] 22) ∧ W.heap[w.heap.size + 1 + 1]? = some (.cells #[.func (.func 25) #[.int .i64 who] #[]] 60) ∧ Below w.heap.size w W)
    (Ax := fun k a' W => a' = { tmps := #[.pointer (some ⟨p, 0, none⟩), .int .i64 who, undef, undef, .pointer (some ⟨w.heap.size, 0, none⟩), .pointer (some ⟨p, 0, none⟩), .int .i64 who, .func (.func 25) #[.int .i64 who] #[], .func (.func 26) #[] #[.pointer (some ⟨w.heap.size + 1, 0, none⟩), .pointer (some ⟨w.heap.size + 1 + 1, 0, none⟩)], ((L.filter (askHas who)).getD k ⟨0, 0, 0, 0, false⟩).val, undef, undef, undef], defers := [] } ∧ W.heap[w.heap.size]? = some (.cells #[.int .i64 k] 3) ∧ W.heap[w.heap.size + 1]? = some (.cells #[.pointer (some ⟨p, 0, none⟩)] 22) ∧ W.heap[w.heap.size + 1 + 1]? = some (.cells #[.func (.func 25) #[.int .i64 who] #[]] 60) ∧ Below w.heap.size w W)
    rfl (by omega) (gf := 26) (lb := #[.pointer (some ⟨w.heap.size + 1, 0, none⟩), .pointer (some ⟨w.heap.size + 1 + 1, 0, none⟩)]) rfl trivial (enters_of Try.func26 (by kernel_rfl) rfl)
    (some1_ends B p m 25 n who s L (askHas who) (fun r W => whas_any who r W) (enters_of Try.func25 (by kernel_rfl) rfl) (w.heap.size + 1) (w.heap.size + 1 + 1) hL) (fun _ => rfl) ?good ?keepI ?keepX ?start ?assign ?body ?done
  case good =>
    intro A hA
    exact ⟨fun k W W' h hb => ⟨⟨kb_below hb h.1.1, kb_below hb h.1.2.1, kb_below hb h.1.2.2.1, bl_then h.1.2.2.2 hb⟩, hA W W' h.2 hb⟩, fun k W h => ⟨F.below h.1.2.2.2, h.1.2.1, h.1.2.2.1⟩⟩
  case keepI =>
    intro k W l r o hl hlr h
    have hs := HS.out
    exact ⟨kb_put h.1 (by omega) _, kb_put h.2.1 (by omega) _, kb_put h.2.2.1 (by omega) _, bl_put h.2.2.2 (by omega) _⟩
  case keepX =>
    intro k a' W l r o hl hlr h
    have hs := HS.out
    exact ⟨h.1, kb_put h.2.1 (by omega) _, kb_put h.2.2.1 (by omega) _, kb_put h.2.2.2.1 (by omega) _, bl_put h.2.2.2.2 (by omega) _⟩
  case start =>
    intro o o'
    exact ⟨kb_alloc (kb_alloc D0 _) _, kb_alloc (kb_alloc D1 _) _, kb_alloc (kb_alloc D2 _) _, by (repeat (with_reducible (first | exact Below.refl _ _ | assumption | refine bl_alloc ?_ _ | refine bl_drew ?_ | refine bl_drewN ?_ _ | (refine bl_set ?_ ?_ _; (focus (first | (simp; done) | (simp; omega) | omega))) | refine bl_then ?_ (by assumption))))⟩
  case assign =>
    intro l k W K hk hI hK
    gi_wp2
    exact hK _ _ (Below.refl _ _) ⟨by simp [enR], hI⟩
  case body =>
    rintro l k a' W r rfl hlt _ _ hk ⟨rfl, h1, h2, h3, h4⟩
    have hs := HS.out
    have c0 := kb_cell h1
    have z0 := kb_frozen h1
    have hk1 : k ≤ 1000 := by have := List.length_filter_le (askHas who) L; omega
    have n1 : w3.heap.size + 1 ≠ w.heap.size := by omega
    have n2 : w3.heap.size ≠ w.heap.size := by omega
    have hs' := Lib.hid hs
    have hk' := Lib.hid hk
    clear hs hk D0 D1 D2
    gi_wp2
    exact ⟨⟨Below.heap_setCell _ _ _ _ n1, Below.heap_setCell _ _ _ _ n2⟩, kb_set h1 _, kb_far h2 (by simp) _, kb_far h3 (by simp; omega) _, by (repeat (with_reducible (first | exact Below.refl _ _ | assumption | refine bl_alloc ?_ _ | refine bl_drew ?_ | refine bl_drewN ?_ _ | (refine bl_set ?_ ?_ _; (focus (first | (simp; done) | (simp; omega) | omega))) | refine bl_then ?_ (by assumption))))⟩
  case done =>
    rintro W ⟨h1, h2, h3, h4⟩ hD
    have hs := HS.out
    have c0 := kb_cell h1
    have z0 := kb_frozen h1
    have n2 : w3.heap.size ≠ w.heap.size := by omega
    have hs' := Lib.hid hs
    clear hs D0 D1 D2
    gi_wp2
    have hD2 := kb_far hD (p := ⟨w.heap.size, 0, none⟩) n2 (.int .i64 ((L.filter (askHas who)).length))
    have h5 := kb_set (i := 0) h1 (.int .i64 ((L.filter (askHas who)).length))
    have b4 : Below w.heap.size w (W.setCell ⟨w.heap.size, 0, none⟩ (.int .i64 ((L.filter (askHas who)).length))) := by (repeat (with_reducible (first | exact Below.refl _ _ | assumption | refine bl_alloc ?_ _ | refine bl_drew ?_ | refine bl_drewN ?_ _ | (refine bl_set ?_ ?_ _; (focus (first | (simp; done) | (simp; omega) | omega))) | refine bl_then ?_ (by assumption))))
    refine ⟨by simp, .inl ⟨_, _, rfl, run_takeDeferred hD2, ?_⟩⟩
    have g3 := kb_cell (kb_put h5 (l := w3.heap.size) n2.symm (.deferred none))
    exact ⟨.int .i64 ((L.filter (askHas who)).length), by simp [results, Try.f21, go_sem, g3], rfl, bl_put b4 (by have := hs'.out; omega) _⟩

/-- What Open tells: the numbers of those that are asked for. -/
def ids (L : List Rq) : List Value := L.map fun r => .int .i64 r.id
theorem infoI : (Try.prog.info? 3).map (fun i => (i.zero, i.size, i.bytes)) = some (some (.int .i64 0), 1, 8) := by kernel_rfl
theorem take_getD {α : Type} (L : List α) (d : α) (k : Nat) (hk : k < L.length) : L.take (k + 1) = L.take k ++ [L.getD k d] := by
  rw [List.take_add_one, List.getD, List.getElem?_eq_getElem hk]; rfl

set_option maxHeartbeats 1000000 in
theorem fOpen_any (B p m : Nat) (n who : Int) (s : Value) (L : List Rq) (w : World) (F : Fl w B p m n s L) (hL : L.length ≤ 1000) :
    Calls Try.prog 20 #[.pointer (some ⟨p, 0, none⟩), .int .i64 who] w fun e w' => ∃ v, e = .returned v ∧ w'.ownsRow w.heap.size 3 1 v (L.filter (askWaits who)).length (ids (L.filter (askWaits who))) ∧ Below w.heap.size w w' := by
  refine (callsIn_wide (n := 8)).1 ?_
  refine callsIn_of_wp_marks Try.func20 rfl trivial ?_ rfl
  simp only [Try.ntmps20, List.size_toArray, List.length_cons, List.length_nil, Nat.reduceAdd, Nat.reduceSub, Array.replicate_succ, Array.replicate_zero, List.push_toArray, List.append_toArray, List.nil_append, List.cons_append]
  gi_wp2_with fail
  refine ⟨trivial, ((callsIn_wide (n := 7)).2 (some_any p 24 who _)).mono ?_⟩
  rintro e w1 ⟨rfl, rfl⟩
  gi_wp2_with fail
  have b3 : Below w.heap.size w (((w.alloc (.cells #[.slice none 0 0] 53)).alloc (.cells #[.pointer (some ⟨p, 0, none⟩)] 22)).alloc (.cells #[.func (.func 24) #[.int .i64 who] #[]] 60)) := by (repeat (with_reducible (first | exact Below.refl _ _ | assumption | refine bl_alloc ?_ _ | refine bl_drew ?_ | refine bl_drewN ?_ _ | (refine bl_set ?_ ?_ _; (focus (first | (simp; done) | (simp; omega) | omega))) | refine bl_then ?_ (by assumption))))
  have D0 : (((w.alloc (.cells #[.slice none 0 0] 53)).alloc (.cells #[.pointer (some ⟨p, 0, none⟩)] 22)).alloc (.cells #[.func (.func 24) #[.int .i64 who] #[]] 60)).heap[w.heap.size]? = some _ := kb_alloc (kb_alloc (kb_new rfl _) _) _
  have D1 : (((w.alloc (.cells #[.slice none 0 0] 53)).alloc (.cells #[.pointer (some ⟨p, 0, none⟩)] 22)).alloc (.cells #[.func (.func 24) #[.int .i64 who] #[]] 60)).heap[w.heap.size + 1]? = some _ := kb_alloc (kb_new (by simp) _) _
  have D2 : (((w.alloc (.cells #[.slice none 0 0] 53)).alloc (.cells #[.pointer (some ⟨p, 0, none⟩)] 22)).alloc (.cells #[.func (.func 24) #[.int .i64 who] #[]] 60)).heap[w.heap.size + 1 + 1]? = some _ := kb_new (by simp) _
  have hsz : (((w.alloc (.cells #[.slice none 0 0] 53)).alloc (.cells #[.pointer (some ⟨p, 0, none⟩)] 22)).alloc (.cells #[.func (.func 24) #[.int .i64 who] #[]] 60)).heap.size = w.heap.size + 3 := by simp
  generalize (((w.alloc (.cells #[.slice none 0 0] 53)).alloc (.cells #[.pointer (some ⟨p, 0, none⟩)] 22)).alloc (.cells #[.func (.func 24) #[.int .i64 who] #[]] 60)) = w3 at *
  have HS := Lib.hid hsz
  clear hsz
  obtain ⟨M, hM⟩ : ∃ M, L.filter (askWaits who) = M := ⟨_, rfl⟩
  have hMl : M.length ≤ 1000 := by have := List.length_filter_le (askWaits who) L; rw [hM] at this; omega
  obtain ⟨i0, hi, hz0, hz1, hz2⟩ := info_parts infoI
  refine wpIn_range_ends (I := fun k W => (∃ v, W.heap[w.heap.size]? = some (.cells #[v] 53) ∧ W.ownsRow w.heap.size 3 1 v k (ids (M.take k))) ∧ W.heap[w.heap.size + 1]? = some (.cells #[.pointer (some ⟨p, 0, none⟩)] 22) ∧ W.heap[w.heap.size + 1 + 1]? = some (.cells #[.func (.func 24) #[.int .i64 who] #[]] 60) ∧ Below w.heap.size w W)
    (Ax := fun k a' W => (∃ q, a' = { tmps := #[.pointer (some ⟨p, 0, none⟩), .int .i64 who, undef, undef, .pointer (some ⟨w.heap.size, 0, none⟩), .pointer (some ⟨q, 0, none⟩), .pointer (some ⟨p, 0, none⟩), .int .i64 who, .func (.func 24) #[.int .i64 who] #[], .func (.func 26) #[] #[.pointer (some ⟨w.heap.size + 1, 0, none⟩), .pointer (some ⟨w.heap.size + 1 + 1, 0, none⟩)], (M.getD k ⟨0, 0, 0, 0, false⟩).val, undef, undef, undef, undef, undef, undef], defers := [] } ∧ W.heap[q]? = some (.cells (M.getD k ⟨0, 0, 0, 0, false⟩).cells.toArray 29)) ∧ (∃ v, W.heap[w.heap.size]? = some (.cells #[v] 53) ∧ W.ownsRow w.heap.size 3 1 v k (ids (M.take k))) ∧ W.heap[w.heap.size + 1]? = some (.cells #[.pointer (some ⟨p, 0, none⟩)] 22) ∧ W.heap[w.heap.size + 1 + 1]? = some (.cells #[.func (.func 24) #[.int .i64 who] #[]] 60) ∧ Below w.heap.size w W)
    rfl (by omega) (gf := 26) (lb := #[.pointer (some ⟨w.heap.size + 1, 0, none⟩), .pointer (some ⟨w.heap.size + 1 + 1, 0, none⟩)]) rfl trivial (enters_of Try.func26 (by kernel_rfl) rfl)
    (hM ▸ some1_ends B p m 24 n who s L (askWaits who) (fun r W => wwaits_any who r W) (enters_of Try.func24 (by kernel_rfl) rfl) (w.heap.size + 1) (w.heap.size + 1 + 1) hL) (fun _ => rfl) ?good ?keepI ?keepX ?start ?assign ?body ?done
  case good =>
    intro A hA
    exact ⟨fun k W W' ⟨⟨⟨v, h1, h2⟩, h3, h4, h5⟩, h6⟩ hb => ⟨⟨⟨v, kb_below hb h1, (Keep.of_below (S := fun _ => False) hb).row h2 (fun _ _ x => x)⟩, kb_below hb h3, kb_below hb h4, bl_then h5 hb⟩, hA W W' h6 hb⟩, fun k W h => ⟨F.below h.1.2.2.2, h.1.2.1, h.1.2.2.1⟩⟩
  case keepI =>
    rintro k W l r o hl hlr ⟨⟨v, h1, h2⟩, h3, h4, h5⟩
    have hs := HS.out
    exact ⟨⟨v, kb_loop h1 hlr _, own_loop h2 hlr _⟩, kb_loop h3 hlr _, kb_loop h4 hlr _, bl_put h5 (by omega) _⟩
  case keepX =>
    rintro k a' W l r o hl hlr ⟨⟨q, e, h0⟩, ⟨v, h1, h2⟩, h3, h4, h5⟩
    have hs := HS.out
    exact ⟨⟨q, e, kb_loop h0 hlr _⟩, ⟨v, kb_loop h1 hlr _, own_loop h2 hlr _⟩, kb_loop h3 hlr _, kb_loop h4 hlr _, bl_put h5 (by omega) _⟩
  case start =>
    intro o o'
    exact ⟨⟨_, kb_alloc (kb_alloc D0 _) _, World.ownsRow_nil _ _ _ _⟩, kb_alloc (kb_alloc D1 _) _, kb_alloc (kb_alloc D2 _) _, by (repeat (with_reducible (first | exact Below.refl _ _ | assumption | refine bl_alloc ?_ _ | refine bl_drew ?_ | refine bl_drewN ?_ _ | (refine bl_set ?_ ?_ _; (focus (first | (simp; done) | (simp; omega) | omega))) | refine bl_then ?_ (by assumption))))⟩
  case assign =>
    rintro l k W K hk ⟨⟨v, h1, h2⟩, h3, h4, h5⟩ hK
    have hq : enR (askWaits who) L k = #[(M.getD k ⟨0, 0, 0, 0, false⟩).val] := by unfold enR; rw [hM]
    rw [hq]
    generalize M.getD k ⟨0, 0, 0, 0, false⟩ = r at *
    have HK := Lib.hid hK
    obtain ⟨id, to, h, a, o⟩ := r
    unfold Rq.val at *
    clear hK
    gi_wp2
    refine HK.out _ _ (by (repeat (with_reducible (first | exact Below.refl _ _ | assumption | refine bl_alloc ?_ _ | refine bl_drew ?_ | refine bl_drewN ?_ _ | (refine bl_set ?_ ?_ _; (focus (first | (simp; done) | (simp; omega) | omega))) | refine bl_then ?_ (by assumption))))) ⟨⟨_, rfl, kb_new rfl _⟩, ⟨v, kb_alloc h1 _, h2.alloc _⟩, kb_alloc h3 _, kb_alloc h4 _, bl_alloc h5 _⟩
  case body =>
    rintro l k a' W r rfl hlt hlr hdr hk ⟨⟨q, rfl, h0⟩, ⟨v, h1, h2⟩, h3, h4, h5⟩
    have hs := HS.out
    have hmn := Lib.hid (take_getD M ⟨0, 0, 0, 0, false⟩ k hk)
    obtain ⟨A, cap, rfl⟩ := owns_slice h2
    obtain ⟨R, hR⟩ : ∃ R, M.getD k ⟨0, 0, 0, 0, false⟩ = R := ⟨_, rfl⟩
    rw [hR] at h0
    have HR := Lib.hid hR
    have cq := (kb_cell h0 0)
    simp only [Rq.cells] at cq
    have c0 := kb_cell h1
    have z0 := kb_frozen h1
    have hk1 : k ≤ 1000 := by omega
    have n1 : w3.heap.size + 1 ≠ w.heap.size := by omega
    have n2 : w3.heap.size ≠ w.heap.size := by omega
    have n3 := own_ne h2 h1 (by decide)
    have n4 := own_ne h2 h3 (by decide)
    have n5 := own_ne h2 h4 (by decide)
    have n6 := own_ne_loop h2 hlr
    have n7 := own_ne_defd h2 hdr
    have hws : w.heap.size ≤ W.heap.size := h5.size
    have hq := kb_lt h0
    have hs' := Lib.hid hs
    have hk' := Lib.hid hk
    rw [hR]
    clear hs hk D0 D1 D2 hR
    obtain ⟨id, to, h, a, o⟩ := R
    simp only at cq
    unfold Rq.val
    gi_wp2_with (gi_at_builtin; refine wpListIn_append_own _ rfl _ _ 53 rfl w.heap.size 3 i0 (.int .i64 0) 1 8 Try.underlying53 hi hz0 hz1 hz2 rfl (by decide) _ _ _ rfl (h2.alloc _) ⟨W.heap.size, 0, none⟩ 1 1 [.int .i64 id] rfl rfl (cell_one_new _ _ _) ?c2 ?c3 ?c4 ?c5 ?_)
    case c2 => intro u hu; simp at hu; subst hu; rfl
    case c3 => unfold maxLen; omega
    case c4 => omega
    case c5 => simp; omega
    intro v' w5 hown' hgrow _
    obtain ⟨A', cap', hv'⟩ := owns_slice hown'
    subst hv'
    have g1 : w5.heap[w.heap.size]? = some _ := (hgrow.block _ (by have := kb_lt h1; simp; omega) (fun e => n3 e.symm)).trans (kb_alloc h1 _)
    have g3 : w5.heap[w.heap.size + 1]? = some _ := (hgrow.block _ (by have := kb_lt h3; simp; omega) (fun e => n4 e.symm)).trans (kb_alloc h3 _)
    have g4 : w5.heap[w.heap.size + 1 + 1]? = some _ := (hgrow.block _ (by have := kb_lt h4; simp; omega) (fun e => n5 e.symm)).trans (kb_alloc h4 _)
    have g5 : w5.heap[w3.heap.size + 1]? = W.heap[w3.heap.size + 1]? := (hgrow.block _ (by simp; omega) (fun e => n6 e.symm)).trans (Below.heap_alloc _ _ _ hlt)
    have g6 : w5.heap[w3.heap.size]? = W.heap[w3.heap.size]? := (hgrow.block _ (by simp; omega) (fun e => n7 e.symm)).trans (Below.heap_alloc _ _ _ (by omega))
    have b5 : Below w.heap.size w w5 := (bl_alloc h5 _).grown hgrow (by simp; omega) (fun j hj => (h2.lt j hj).1)
    have gg := own_ne hown' g1 (by decide)
    have G := Lib.hid hgrow
    clear hgrow c0 z0 cq n3 n4 n5 n6 n7
    have c0 := kb_cell g1
    have z0 := kb_frozen g1
    gi_wp2
    have hm := hmn.out
    rw [HR.out] at hm
    refine ⟨⟨(Below.heap_setCell _ _ _ _ n1).trans g5, (Below.heap_setCell _ _ _ _ n2).trans g6⟩, ⟨_, kb_set g1 _, ?_⟩, kb_far g3 (by simp) _, kb_far g4 (by simp; omega) _, by (repeat (with_reducible (first | exact Below.refl _ _ | assumption | refine bl_alloc ?_ _ | refine bl_drew ?_ | refine bl_drewN ?_ _ | (refine bl_set ?_ ?_ _; (focus (first | (simp; done) | (simp; omega) | omega))) | refine bl_then ?_ (by assumption))))⟩
    rw [hm]
    have hh : ids (M.take k ++ [(⟨id, to, h, a, o⟩ : Rq)]) = ids (M.take k) ++ [.int .i64 id] := by simp [ids]
    rw [hh]
    exact hown'.kept (row := some w.heap.size) ⟨rfl, rfl, rfl, by simp, fun b _ hb => Below.heap_setCell _ _ _ _ (fun e => hb (by rw [e]))⟩ (.inr gg)
  case done =>
    rintro W ⟨⟨v, h1, h2⟩, h3, h4, h5⟩ hD
    have hs := HS.out
    obtain ⟨A, cap, rfl⟩ := owns_slice h2
    have c0 := kb_cell h1
    have z0 := kb_frozen h1
    have n2 : w3.heap.size ≠ w.heap.size := by omega
    have n3 := own_ne h2 h1 (by decide)
    have hs' := Lib.hid hs
    have H2 := Lib.hid h2
    clear hs D0 D1 D2 h2
    gi_wp2
    have hD2 := kb_far hD (p := ⟨w.heap.size, 0, none⟩) n2 (.slice A M.length cap)
    have h5' := kb_set (i := 0) h1 (.slice A M.length cap)
    have b4 : Below w.heap.size w (W.setCell ⟨w.heap.size, 0, none⟩ (.slice A M.length cap)) := by (repeat (with_reducible (first | exact Below.refl _ _ | assumption | refine bl_alloc ?_ _ | refine bl_drew ?_ | refine bl_drewN ?_ _ | (refine bl_set ?_ ?_ _; (focus (first | (simp; done) | (simp; omega) | omega))) | refine bl_then ?_ (by assumption))))
    refine ⟨by simp, .inl ⟨_, _, rfl, run_takeDeferred hD2, ?_⟩⟩
    have g3 := kb_cell (kb_put h5' (l := w3.heap.size) n2.symm (.deferred none))
    have r1 : (W.setCell ⟨w.heap.size, 0, none⟩ (.slice A M.length cap)).ownsRow w.heap.size 3 1 (.slice A M.length cap) M.length (ids (M.take M.length)) :=
      H2.out.kept (row := some w.heap.size) ⟨rfl, rfl, rfl, by simp, fun b _ hb => Below.heap_setCell _ _ _ _ (fun e => hb (by rw [e]))⟩ (.inr n3)
    refine ⟨.slice A M.length cap, by simp [results, Try.f20, go_sem, g3], _, rfl, ?_, bl_put b4 (by have := hs'.out; omega) _⟩
    rw [List.take_length] at r1
    rw [hM]
    exact own_defd r1 hD2 _
end Go.Proofs.Ytfbgnimkjflffaa
