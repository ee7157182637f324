/- The walks of package peers: the best one of a role. -/
import Derived.Test.YtlnhofpjeinadaaPee2
import Derived.RegionIn
import Derived.RangeFuncCalls
namespace Go.Proofs.Ytlnhofpjeinadaa
set_option linter.unusedSimpArgs false
set_option linter.unusedVariables false
open Go.RowKit Go.Proofs.Ytlnhofpjeinadaa.Pc Go.Shelf BigFrame
attribute [local go_sem] run_store_float Oper.semAt_some cell_alloc_some frozen_alloc_some

/-- The best one of the first k of a role. -/
def topK (L : List Pr) (role : Int) (k : Nat) : Option (Pr × Nat) := top ((ofs L role).take k)
def tsS : Option (Pr × Nat) → Int
  | none => 0
  | some t => t.1.s
def tsP : Option (Pr × Nat) → Nat
  | none => 0
  | some t => t.1.p
theorem topK_next {L : List Pr} {role : Int} {k : Nat} (h : k < (ofs L role).length) : topK L role (k + 1) = topS (topK L role k) ((ofs L role).getD k prN) := by
  unfold topK top
  rw [List.take_add_one, List.getElem?_eq_getElem h, List.getD, List.getElem?_eq_getElem h, List.foldl_append]
  rfl
theorem topK_all (L : List Pr) (role : Int) : atI (topK L role (ofs L role).length) = bestI L role := by unfold topK bestI; rw [List.take_length]
theorem ofs_getD {L : List Pr} {role : Int} {k : Nat} (h : k < (ofs L role).length) : (ofs L role).getD k prN ∈ ofs L role := by
  rw [List.getD, List.getElem?_eq_getElem h]; exact List.getElem_mem h
theorem topK_mem {L : List Pr} {role : Int} {k : Nat} {t : Pr × Nat} (h : topK L role k = some t) : t ∈ ofs L role := List.mem_of_mem_take (top_mem h)
theorem Pr.fit_of {L : List Pr} (hF : ∀ x ∈ L, x.Fit) {role : Int} {y : Pr × Nat} (h : y ∈ ofs L role) : y.1.Fit := hF _ (List.mem_of_getElem? (ofs_mem h).1)

set_option maxHeartbeats 1000000 in
theorem best_any {w : World} {q g : Nat} {L : List Pr} (F : PP w q g L) (role : Int) (c1 c2 : Nat) (h1 : w.heap[c1]? = some (.cells #[.pointer (some ⟨q, 0, none⟩)] 22)) (h2 : w.heap[c2]? = some (.cells #[.int .i64 role] 3)) :
    Calls Try.prog 38 #[.func (.func 58) #[] #[.pointer (some ⟨c1, 0, none⟩), .pointer (some ⟨c2, 0, none⟩)], .func (.func 39) #[] #[]] w fun e w' => e = .returned (.int .i64 (bestI L role)) ∧ Below w.heap.size w w' := by
  refine (callsIn_wide (n := 8)).1 ?_
  refine callsIn_of_wp_marks Try.func38 rfl trivial ?_ rfl
  simp only [Try.ntmps38, List.size_toArray, List.length_cons, List.length_nil, Nat.reduceAdd, Nat.reduceSub, Array.replicate_succ, Array.replicate_zero, List.push_toArray, List.append_toArray, List.nil_append, List.cons_append]
  gi_wp2_with fail
  have b3 : Below w.heap.size w (((w.alloc (.cells #[.func (.func 39) #[] #[]] 37)).alloc (.cells #[.int .i64 (-1)] 3)).alloc (.cells #[.int .i64 0, .float .f64 0] 33)) := by (repeat (with_reducible (first | exact Below.refl _ _ | assumption | refine bl_alloc ?_ _ | refine bl_drew ?_ | refine bl_drewN ?_ _ | (refine bl_set ?_ ?_ _; (focus (first | (simp; done) | (simp; omega) | omega))) | refine bl_then ?_ (by assumption))))
  have D0 : (((w.alloc (.cells #[.func (.func 39) #[] #[]] 37)).alloc (.cells #[.int .i64 (-1)] 3)).alloc (.cells #[.int .i64 0, .float .f64 0] 33)).heap[w.heap.size]? = some _ := kb_alloc (kb_alloc (kb_new rfl _) _) _
  have D1 : (((w.alloc (.cells #[.func (.func 39) #[] #[]] 37)).alloc (.cells #[.int .i64 (-1)] 3)).alloc (.cells #[.int .i64 0, .float .f64 0] 33)).heap[w.heap.size + 1]? = some _ := kb_alloc (kb_new (by simp) _) _
  have D2 : (((w.alloc (.cells #[.func (.func 39) #[] #[]] 37)).alloc (.cells #[.int .i64 (-1)] 3)).alloc (.cells #[.int .i64 0, .float .f64 0] 33)).heap[w.heap.size + 2]? = some _ := kb_new (by simp) _
  have hsz : (((w.alloc (.cells #[.func (.func 39) #[] #[]] 37)).alloc (.cells #[.int .i64 (-1)] 3)).alloc (.cells #[.int .i64 0, .float .f64 0] 33)).heap.size = w.heap.size + 3 := by simp
  generalize (((w.alloc (.cells #[.func (.func 39) #[] #[]] 37)).alloc (.cells #[.int .i64 (-1)] 3)).alloc (.cells #[.int .i64 0, .float .f64 0] 33)) = w3 at *
  have HS := Lib.hid hsz
  have hF := Lib.hid F.fit
  have hL := F.hi
  have l1 := kb_lt h1
  have l2 := kb_lt h2
  clear hsz
  refine wpIn_range_ends (I := fun k W => W.heap[w.heap.size]? = some (.cells #[.func (.func 39) #[] #[]] 37) ∧ W.heap[w.heap.size + 1]? = some (.cells #[.int .i64 (atI (topK L role k))] 3) ∧ W.heap[w.heap.size + 2]? = some (.cells #[.int .i64 (tsS (topK L role k)), .float .f64 (tsP (topK L role k))] 33) ∧ Below w.heap.size w W)
    (Ax := fun k a' W => (∃ b, a' = { tmps := #[.func (.func 58) #[] #[.pointer (some ⟨c1, 0, none⟩), .pointer (some ⟨c2, 0, none⟩)], .func (.func 39) #[] #[], undef, .pointer (some ⟨w.heap.size, 0, none⟩), .int .i64 0, .pointer (some ⟨w.heap.size + 1, 0, none⟩), .pointer (some ⟨w.heap.size + 1 + 1, 0, none⟩), .int .i64 ((ofs L role).getD k prN).2, .pointer (some ⟨b, 0, none⟩), .func (.func 58) #[] #[.pointer (some ⟨c1, 0, none⟩), .pointer (some ⟨c2, 0, none⟩)], .int .i64 ((ofs L role).getD k prN).2, merV ((ofs L role).getD k prN).1, undef, undef, undef, undef, undef, undef, undef, undef, undef, undef, undef], defers := [] } ∧ W.heap[b]? = some (.cells #[.int .i64 ((ofs L role).getD k prN).1.s, .float .f64 ((ofs L role).getD k prN).1.p] 33) ∧ w.heap.size + 2 < b) ∧ W.heap[w.heap.size]? = some (.cells #[.func (.func 39) #[] #[]] 37) ∧ W.heap[w.heap.size + 1]? = some (.cells #[.int .i64 (atI (topK L role k))] 3) ∧ W.heap[w.heap.size + 2]? = some (.cells #[.int .i64 (tsS (topK L role k)), .float .f64 (tsP (topK L role k))] 33) ∧ Below w.heap.size w W)
    rfl (by omega) (gf := 58) (lb := #[.pointer (some ⟨c1, 0, none⟩), .pointer (some ⟨c2, 0, none⟩)]) rfl trivial (enters_of Try.func58 (by kernel_rfl) rfl)
    (of1_ends q g L role c1 c2 (by omega)) (fun _ => rfl) ?good ?keepI ?keepX ?start ?assign ?body ?done
  case good =>
    intro A hA
    exact ⟨fun k W W' h hb => ⟨⟨kb_below hb h.1.1, kb_below hb h.1.2.1, kb_below hb h.1.2.2.1, bl_then h.1.2.2.2 hb⟩, hA W W' h.2 hb⟩, fun k W h => ⟨F.below h.1.2.2.2, kb_below h.1.2.2.2 h1, kb_below h.1.2.2.2 h2⟩⟩
  case keepI =>
    intro k W l r o hl hlr h
    have hs := HS.out
    exact ⟨kb_put h.1 (by omega) _, kb_put h.2.1 (by omega) _, kb_put h.2.2.1 (by omega) _, bl_put h.2.2.2 (by omega) _⟩
  case keepX =>
    rintro k a' W l r o hl hlr ⟨⟨b, e, h0, h00⟩, h⟩
    have hs := HS.out
    exact ⟨⟨b, e, kb_loop h0 hlr _, h00⟩, kb_put h.1 (by omega) _, kb_put h.2.1 (by omega) _, kb_put h.2.2.1 (by omega) _, bl_put h.2.2.2 (by omega) _⟩
  case start =>
    intro o o'
    exact ⟨kb_alloc (kb_alloc D0 _) _, kb_alloc (kb_alloc D1 _) _, kb_alloc (kb_alloc D2 _) _, by (repeat (with_reducible (first | exact Below.refl _ _ | assumption | refine bl_alloc ?_ _ | refine bl_drew ?_ | refine bl_drewN ?_ _ | (refine bl_set ?_ ?_ _; (focus (first | (simp; done) | (simp; omega) | omega))) | refine bl_then ?_ (by assumption))))⟩
  case assign =>
    rintro l k W K hk ⟨j0, j1, j2, j3⟩ hK
    have HK := Lib.hid hK
    have hs := Lib.hid HS.out
    have hW := kb_lt j2
    have hk' := Lib.hid hk
    unfold enM
    generalize (ofs L role).getD k prN = y at *
    clear hK hk
    unfold merV
    unfold merV at HK
    gi_wp2
    exact HK.out _ _ (by (repeat (with_reducible (first | exact Below.refl _ _ | assumption | refine bl_alloc ?_ _ | refine bl_drew ?_ | refine bl_drewN ?_ _ | (refine bl_set ?_ ?_ _; (focus (first | (simp; done) | (simp; omega) | omega))) | refine bl_then ?_ (by assumption))))) ⟨⟨_, rfl, kb_new rfl _, hW⟩, kb_alloc j0 _, kb_alloc j1 _, kb_alloc j2 _, bl_alloc j3 _⟩
  case body =>
    rintro l k a' W r rfl hlt hlr hdr hk ⟨⟨b, rfl, hb, hbm⟩, j0, j1, j2, j3⟩
    have hs := HS.out
    have n1 : w3.heap.size + 1 ≠ w.heap.size + 1 := by omega
    have n2 : w3.heap.size ≠ w.heap.size + 1 := by omega
    have n3 : w3.heap.size + 1 ≠ w.heap.size + 2 := by omega
    have n4 : w3.heap.size ≠ w.heap.size + 2 := by omega
    have HT := topK_next hk
    have hy := Pr.fit_of hF.out (ofs_getD hk)
    have ht : ∀ t, topK L role k = some t → t.1.Fit := fun t e => Pr.fit_of hF.out (topK_mem e)
    generalize (ofs L role).getD k prN = y at *
    generalize topK L role k = o at *
    have hT := Lib.hid HT
    have hs' := Lib.hid hs
    have HD0 := Lib.hid D0
    have HD1 := Lib.hid D1
    have HD2 := Lib.hid D2
    have hk' := Lib.hid hk
    clear hs hk D0 D1 D2 HT
    cases o with
    | none =>
      clear ht hy
      have a0 := kb_cell j0
      have a1 := kb_cell j1
      have a2 := kb_cell j2
      have ab := kb_cell hb
      have z1 := kb_frozen j1
      have z2 := kb_frozen j2
      simp only [atI, tsS, tsP] at a1 a2
      unfold merV
      gi_wp2_with fail
      refine ⟨(fun f h => nomatch h), ?_⟩
      gi_wp2_with fail
      gi_region
      all_goals
        refine ⟨⟨(Below.heap_setCell _ _ _ _ n3).trans ((Below.heap_setCell _ _ _ _ n3).trans (Below.heap_setCell _ _ _ _ n1)), (Below.heap_setCell _ _ _ _ n4).trans ((Below.heap_setCell _ _ _ _ n4).trans (Below.heap_setCell _ _ _ _ n2))⟩, ?_⟩
        dsimp only
        rw [hT.out]
        refine ⟨kb_drew (kb_far (kb_far (kb_far j0 (by dsimp only; omega) _) (by dsimp only; omega) _) (by dsimp only; omega) _), kb_drew (kb_far (kb_far (kb_set j1 _) (by dsimp only; omega) _) (by dsimp only; omega) _), kb_drew (kb_set (kb_set (kb_far j2 (by dsimp only; omega) _) _) _), by (repeat (with_reducible (first | exact Below.refl _ _ | assumption | refine bl_alloc ?_ _ | refine bl_drew ?_ | refine bl_drewN ?_ _ | (refine bl_set ?_ ?_ _; (focus (first | (simp; done) | (simp; omega) | omega))) | refine bl_then ?_ (by assumption))))⟩
    | some t =>
      have htf := ht t rfl
      clear ht
      have a0 := kb_cell j0
      have a1 := kb_cell j1
      have a2 := kb_cell j2
      have ab := kb_cell hb
      have z1 := kb_frozen j1
      have z2 := kb_frozen j2
      simp only [atI, tsS, tsP] at a1 a2
      have hB := Lib.hid (fun W => CallsIn.inRound (w3.heap.size + 1) ((callsIn_wide (n := 5)).2 (Better_any y.1.s y.1.p t.1.s t.1.p W hy.p htf.p)))
      have hd : ¬ ((t.2 : Nat) : Int) < 0 := by omega
      have hs1 : topS (some t) y = if betM y.1.s y.1.p t.1.s t.1.p then some y else some t := rfl
      clear hy htf
      unfold merV
      cases hbet : betM y.1.s y.1.p t.1.s t.1.p
      · rw [hbet] at hB hs1
        have hS := Lib.hid hs1
        clear hs1 hbet
        gi_wp2_with fail
        refine ⟨trivial, (hB.out _).mono ?_⟩
        rintro e w1 ⟨rfl, hb1⟩
        have q0 := kb_below hb1 j0
        have q1 := kb_below hb1 j1
        have q2 := kb_below hb1 j2
        gi_wp2_with fail
        refine ⟨⟨hb1.block _ hlt, hb1.block _ (by omega)⟩, ?_⟩
        dsimp only
        rw [hT.out, hS.out]
        exact ⟨q0, q1, q2, bl_then j3 hb1⟩
      · rw [hbet] at hB hs1
        have hS := Lib.hid hs1
        clear hs1 hbet
        gi_wp2_with fail
        refine ⟨trivial, (hB.out _).mono ?_⟩
        rintro e w1 ⟨rfl, hb1⟩
        have q0 := kb_below hb1 j0
        have q1 := kb_below hb1 j1
        have q2 := kb_below hb1 j2
        have qb := kb_below hb1 hb
        have g1 := hb1.block _ hlt
        have g2 := hb1.block _ (show w3.heap.size < W.heap.size by omega)
        have hb2 := bl_then j3 hb1
        clear a0 a1 a2 ab z1 z2
        have a1 := kb_cell q1
        have a2 := kb_cell q2
        have ab := kb_cell qb
        have z1 := kb_frozen q1
        have z2 := kb_frozen q2
        gi_wp2_with fail
        gi_region
        all_goals
          refine ⟨⟨(Below.heap_setCell _ _ _ _ n3).trans ((Below.heap_setCell _ _ _ _ n3).trans ((Below.heap_setCell _ _ _ _ n1).trans g1)), (Below.heap_setCell _ _ _ _ n4).trans ((Below.heap_setCell _ _ _ _ n4).trans ((Below.heap_setCell _ _ _ _ n2).trans g2))⟩, ?_⟩
          dsimp only
          rw [hT.out, hS.out]
          refine ⟨kb_drew (kb_far (kb_far (kb_far q0 (by dsimp only; omega) _) (by dsimp only; omega) _) (by dsimp only; omega) _), kb_drew (kb_far (kb_far (kb_set q1 _) (by dsimp only; omega) _) (by dsimp only; omega) _), kb_drew (kb_set (kb_set (kb_far q2 (by dsimp only; omega) _) _) _), by (repeat (with_reducible (first | exact Below.refl _ _ | assumption | refine bl_alloc ?_ _ | refine bl_drew ?_ | refine bl_drewN ?_ _ | (refine bl_set ?_ ?_ _; (focus (first | (simp; done) | (simp; omega) | omega))) | refine bl_then ?_ (by assumption))))⟩
  case done =>
    rintro W ⟨j0, j1, j2, j3⟩ hD
    rw [topK_all] at j1
    have hs := HS.out
    have n2 : w3.heap.size ≠ w.heap.size + 1 := by omega
    have a1 := kb_cell j1
    have hs' := Lib.hid hs
    clear hs D0 D1 D2
    gi_wp2
    refine ⟨by simp, .inl ⟨_, _, rfl, run_takeDeferred hD, ?_⟩⟩
    exact ⟨.int .i64 (bestI L role), by simp [results, Try.f38, go_sem], rfl, bl_put j3 (by have := hs'.out; omega) _⟩
end Go.Proofs.Ytlnhofpjeinadaa
