/- The walks of package peers: Primary, All. -/
import Derived.Test.YtlnhofpjeinadaaPee3
import Derived.Test.YtlnhofpjeinadaaSame
namespace Go.Proofs.Ytlnhofpjeinadaa
set_option linter.unusedSimpArgs false
set_option linter.unusedVariables false
open Go.RowKit Go.Proofs.Ytlnhofpjeinadaa.Pc Go.Shelf BigFrame
attribute [local go_sem] run_store_float Oper.semAt_some cell_alloc_some frozen_alloc_some

set_option maxHeartbeats 1000000 in
theorem Primary_any {w : World} {q g : Nat} {L : List Pr} (F : PP w q g L) : Calls Try.prog 29 #[.pointer (some ⟨q, 0, none⟩)] w fun e w' => e = .returned (.int .i64 (bestI L 3)) ∧ Below w.heap.size w w' := by
  go_enter Try.func29, Try.ntmps29
  go_wp2_with fail
  refine (of_any q 3 _).mono ?_
  rintro e w1 ⟨rfl, rfl⟩
  go_wp2_with fail
  refine (best_any (F.below (by (repeat (with_reducible (first | exact Below.refl _ _ | assumption | refine bl_alloc ?_ _ | refine bl_drew ?_ | refine bl_drewN ?_ _ | (refine bl_set ?_ ?_ _; (focus (first | (simp; done) | (simp; omega) | omega))) | refine bl_then ?_ (by assumption)))))) 3 _ _ (kb_alloc (kb_new rfl _) _) (kb_new (by simp) _)).mono ?_
  rintro e w1 ⟨rfl, hb1⟩
  go_wp2
  go_ret
  exact ⟨rfl, by (repeat (with_reducible (first | exact Below.refl _ _ | assumption | refine bl_alloc ?_ _ | refine bl_drew ?_ | refine bl_drewN ?_ _ | (refine bl_set ?_ ?_ _; (focus (first | (simp; done) | (simp; omega) | omega))) | refine bl_then ?_ (by assumption))))⟩

/-- The places of the first k of a role. -/
def allK (L : List Pr) (role : Int) (k : Nat) : List Int := ((ofs L role).take k).map fun y => (y.2 : Int)
theorem allK_next {L : List Pr} {role : Int} {k : Nat} (h : k < (ofs L role).length) : intVs (allK L role (k + 1)) = intVs (allK L role k) ++ [.int .i64 ((ofs L role).getD k prN).2] := by
  unfold allK intVs
  rw [List.take_add_one, List.getElem?_eq_getElem h, List.getD, List.getElem?_eq_getElem h]
  simp only [Option.toList_some, Option.getD_some, List.map_append, List.map_cons, List.map_nil]
theorem allK_all (L : List Pr) (role : Int) : allK L role (ofs L role).length = allI L role := by unfold allK allI; rw [List.take_length]
theorem infoI : (Try.prog.info? 3).map (fun i => (i.zero, i.size, i.bytes)) = some (some (.int .i64 0), 1, 8) := by kernel_rfl

set_option maxHeartbeats 1000000 in
theorem All_any {w : World} {q g : Nat} {L : List Pr} (F : PP w q g L) (role : Int) :
    Calls Try.prog 9 #[.pointer (some ⟨q, 0, none⟩), .int .i64 role] w fun e w' => ∃ v, e = .returned v ∧ w'.ownsRow w.heap.size 3 1 v (ofs L role).length (intVs (allI L role)) ∧ Below w.heap.size w w' := by
  refine (callsIn_wide (n := 8)).1 ?_
  refine callsIn_of_wp_marks Try.func9 rfl trivial ?_ rfl
  simp only [Try.ntmps9, List.size_toArray, List.length_cons, List.length_nil, Nat.reduceAdd, Nat.reduceSub, Array.replicate_succ, Array.replicate_zero, List.push_toArray, List.append_toArray, List.nil_append, List.cons_append]
  gi_wp2_with fail
  refine ⟨trivial, ((callsIn_wide (n := 7)).2 (of_any q role _)).mono ?_⟩
  rintro e w1 ⟨rfl, rfl⟩
  gi_wp2_with fail
  have b3 : Below w.heap.size w (((w.alloc (.cells #[.slice none 0 0] 25)).alloc (.cells #[.pointer (some ⟨q, 0, none⟩)] 22)).alloc (.cells #[.int .i64 role] 3)) := by (repeat (with_reducible (first | exact Below.refl _ _ | assumption | refine bl_alloc ?_ _ | refine bl_drew ?_ | refine bl_drewN ?_ _ | (refine bl_set ?_ ?_ _; (focus (first | (simp; done) | (simp; omega) | omega))) | refine bl_then ?_ (by assumption))))
  have D0 : (((w.alloc (.cells #[.slice none 0 0] 25)).alloc (.cells #[.pointer (some ⟨q, 0, none⟩)] 22)).alloc (.cells #[.int .i64 role] 3)).heap[w.heap.size]? = some _ := kb_alloc (kb_alloc (kb_new rfl _) _) _
  have D1 : (((w.alloc (.cells #[.slice none 0 0] 25)).alloc (.cells #[.pointer (some ⟨q, 0, none⟩)] 22)).alloc (.cells #[.int .i64 role] 3)).heap[w.heap.size + 1]? = some _ := kb_alloc (kb_new (by simp) _) _
  have D2 : (((w.alloc (.cells #[.slice none 0 0] 25)).alloc (.cells #[.pointer (some ⟨q, 0, none⟩)] 22)).alloc (.cells #[.int .i64 role] 3)).heap[w.heap.size + 1 + 1]? = some _ := kb_new (by simp) _
  have hsz : (((w.alloc (.cells #[.slice none 0 0] 25)).alloc (.cells #[.pointer (some ⟨q, 0, none⟩)] 22)).alloc (.cells #[.int .i64 role] 3)).heap.size = w.heap.size + 3 := by simp
  generalize (((w.alloc (.cells #[.slice none 0 0] 25)).alloc (.cells #[.pointer (some ⟨q, 0, none⟩)] 22)).alloc (.cells #[.int .i64 role] 3)) = w3 at *
  have HS := Lib.hid hsz
  have hL := F.hi
  have hMl := ofs_len L role
  clear hsz
  obtain ⟨i0, hi, hz0, hz1, hz2⟩ := info_parts infoI
  refine wpIn_range_ends (I := fun k W => (∃ v, W.heap[w.heap.size]? = some (.cells #[v] 25) ∧ W.ownsRow (w.heap.size + 3) 3 1 v k (intVs (allK L role k))) ∧ W.heap[w.heap.size + 1]? = some (.cells #[.pointer (some ⟨q, 0, none⟩)] 22) ∧ W.heap[w.heap.size + 1 + 1]? = some (.cells #[.int .i64 role] 3) ∧ Below w.heap.size w W)
    (Ax := fun k a' W => a' = { tmps := #[.pointer (some ⟨q, 0, none⟩), .int .i64 role, undef, undef, .pointer (some ⟨w.heap.size, 0, none⟩), .int .i64 ((ofs L role).getD k prN).2, .pointer (some ⟨q, 0, none⟩), .int .i64 role, (.func (.func 58) #[] #[.pointer (some ⟨w.heap.size + 1, 0, none⟩), .pointer (some ⟨w.heap.size + 1 + 1, 0, none⟩)]), .int .i64 ((ofs L role).getD k prN).2, merV ((ofs L role).getD k prN).1, undef, undef, undef, undef, undef], defers := [] } ∧ (∃ v, W.heap[w.heap.size]? = some (.cells #[v] 25) ∧ W.ownsRow (w.heap.size + 3) 3 1 v k (intVs (allK L role k))) ∧ W.heap[w.heap.size + 1]? = some (.cells #[.pointer (some ⟨q, 0, none⟩)] 22) ∧ W.heap[w.heap.size + 1 + 1]? = some (.cells #[.int .i64 role] 3) ∧ Below w.heap.size w W)
    rfl (by omega) (gf := 58) (lb := #[.pointer (some ⟨w.heap.size + 1, 0, none⟩), .pointer (some ⟨w.heap.size + 1 + 1, 0, none⟩)]) rfl trivial (enters_of Try.func58 (by kernel_rfl) rfl)
    (of1_ends q g L role (w.heap.size + 1) (w.heap.size + 1 + 1) (by omega)) (fun _ => rfl) ?good ?keepI ?keepX ?start ?assign ?body ?done
  case good =>
    intro A hA
    exact ⟨fun k W W' ⟨⟨⟨v, h1, h2⟩, h3, h4, h5⟩, h6⟩ hb => ⟨⟨⟨v, kb_below hb h1, (Keep.of_below (S := fun _ => False) hb).row h2 (fun _ _ x => x)⟩, kb_below hb h3, kb_below hb h4, bl_then h5 hb⟩, hA W W' h6 hb⟩, fun k W h => ⟨F.below h.1.2.2.2, h.1.2.1, h.1.2.2.1⟩⟩
  case keepI =>
    rintro k W l r o hl hlr ⟨⟨v, h1, h2⟩, h3, h4, h5⟩
    have hs := HS.out
    exact ⟨⟨v, kb_loop h1 hlr _, own_loop h2 hlr _⟩, kb_loop h3 hlr _, kb_loop h4 hlr _, bl_put h5 (by omega) _⟩
  case keepX =>
    rintro k a' W l r o hl hlr ⟨e, ⟨v, h1, h2⟩, h3, h4, h5⟩
    have hs := HS.out
    exact ⟨e, ⟨v, kb_loop h1 hlr _, own_loop h2 hlr _⟩, kb_loop h3 hlr _, kb_loop h4 hlr _, bl_put h5 (by omega) _⟩
  case start =>
    intro o o'
    exact ⟨⟨_, kb_alloc (kb_alloc D0 _) _, World.ownsRow_nil _ _ _ _⟩, kb_alloc (kb_alloc D1 _) _, kb_alloc (kb_alloc D2 _) _, by (repeat (with_reducible (first | exact Below.refl _ _ | assumption | refine bl_alloc ?_ _ | refine bl_drew ?_ | refine bl_drewN ?_ _ | (refine bl_set ?_ ?_ _; (focus (first | (simp; done) | (simp; omega) | omega))) | refine bl_then ?_ (by assumption))))⟩
  case assign =>
    rintro l k W K hk hI hK
    have HK := Lib.hid hK
    have hk' := Lib.hid hk
    unfold enM
    generalize (ofs L role).getD k prN = y at *
    have HI := Lib.hid hI
    clear hK hk hI
    gi_wp2
    exact HK.out _ _ (Below.refl _ _) ⟨rfl, HI.out⟩
  case body =>
    rintro l k a' W r rfl hlt hlr hdr hk ⟨rfl, ⟨v, h1, h2⟩, h3, h4, h5⟩
    have hs := HS.out
    have hmn := Lib.hid (allK_next hk)
    obtain ⟨A, cap, rfl⟩ := owns_slice0 h2
    have c0 := kb_cell h1
    have z0 := kb_frozen h1
    have hk1 : k ≤ 1000 := by omega
    have n1 : w3.heap.size + 1 ≠ w.heap.size := by omega
    have n2 : w3.heap.size ≠ w.heap.size := by omega
    have n3 : (Value.slice A k cap).ownBlock ≠ some w.heap.size := fun e => by have := (h2.lt _ e).1; omega
    have n4 : (Value.slice A k cap).ownBlock ≠ some (w.heap.size + 1) := fun e => by have := (h2.lt _ e).1; omega
    have n5 : (Value.slice A k cap).ownBlock ≠ some (w.heap.size + 1 + 1) := fun e => by have := (h2.lt _ e).1; omega
    have n3' : (w.heap.size + 3) ≤ W.heap.size := by omega
    have n6 := own_ne_loop h2 hlr
    have n7 := own_ne_defd h2 hdr
    have hws : w.heap.size ≤ W.heap.size := h5.size
    have hs' := Lib.hid hs
    have hk' := Lib.hid hk
    generalize (ofs L role).getD k prN = y at *
    clear hs hk D0 D1 D2
    unfold merV
    gi_wp2_with (gi_at_builtin; refine wpListIn_append_own _ rfl _ _ 25 rfl (w.heap.size + 3) 3 i0 (.int .i64 0) 1 8 Try.underlying25 hi hz0 hz1 hz2 rfl (by decide) _ _ _ rfl (h2.alloc _) ⟨W.heap.size, 0, none⟩ 1 1 [.int .i64 y.2] rfl rfl (cell_one_new _ _ _) ?c2 ?c3 ?c4 ?c5 ?_)
    case c2 => intro u hu; simp at hu; subst hu; rfl
    case c3 => unfold maxLen; omega
    case c4 => omega
    case c5 => simp; omega
    intro v' w5 hown' hgrow _
    obtain ⟨A', cap', hv'⟩ := owns_slice0 hown'
    subst hv'
    have g1 : w5.heap[w.heap.size]? = some _ := (hgrow.block _ (by have := kb_lt h1; simp; omega) (fun e => n3 e.symm)).trans (kb_alloc h1 _)
    have g3 : w5.heap[w.heap.size + 1]? = some _ := (hgrow.block _ (by have := kb_lt h3; simp; omega) (fun e => n4 e.symm)).trans (kb_alloc h3 _)
    have g4 : w5.heap[w.heap.size + 1 + 1]? = some _ := (hgrow.block _ (by have := kb_lt h4; simp; omega) (fun e => n5 e.symm)).trans (kb_alloc h4 _)
    have g5 : w5.heap[w3.heap.size + 1]? = W.heap[w3.heap.size + 1]? := (hgrow.block _ (by simp; omega) (fun e => n6 e.symm)).trans (Below.heap_alloc _ _ _ hlt)
    have g6 : w5.heap[w3.heap.size]? = W.heap[w3.heap.size]? := (hgrow.block _ (by simp; omega) (fun e => n7 e.symm)).trans (Below.heap_alloc _ _ _ (by omega))
    have b5 : Below w.heap.size w w5 := (bl_alloc h5 _).grown hgrow (by simp; omega) (fun j hj => by have := (h2.lt j hj).1; omega)
    have gg : (Value.slice A' (k + 1) cap').ownBlock ≠ some w.heap.size := fun e => by have := (hown'.lt _ e).1; omega
    have G := Lib.hid hgrow
    clear hgrow c0 z0 n3 n4 n5 n6 n7
    have c0 := kb_cell g1
    have z0 := kb_frozen g1
    gi_wp2
    refine ⟨⟨(Below.heap_setCell _ _ _ _ n1).trans g5, (Below.heap_setCell _ _ _ _ n2).trans g6⟩, ⟨_, kb_set g1 _, ?_⟩, kb_far g3 (by simp) _, kb_far g4 (by dsimp only; omega) _, by (repeat (with_reducible (first | exact Below.refl _ _ | assumption | refine bl_alloc ?_ _ | refine bl_drew ?_ | refine bl_drewN ?_ _ | (refine bl_set ?_ ?_ _; (focus (first | (simp; done) | (simp; omega) | omega))) | refine bl_then ?_ (by assumption))))⟩
    rw [hmn.out]
    exact hown'.kept (row := some w.heap.size) ⟨rfl, rfl, rfl, by simp, fun b _ hb => Below.heap_setCell _ _ _ _ (fun e => hb (by rw [e]))⟩ (.inr gg)
  case done =>
    rintro W ⟨⟨v, h1, h2⟩, h3, h4, h5⟩ hD
    have hs := HS.out
    rw [allK_all] at h2
    obtain ⟨n, hn⟩ : ∃ n, (ofs L role).length = n := ⟨_, rfl⟩
    obtain ⟨xs, hxs⟩ : ∃ xs, allI L role = xs := ⟨_, rfl⟩
    rw [hn, hxs] at h2
    have HNX := Lib.hid (And.intro hn hxs)
    clear hn hxs
    obtain ⟨A, cap, rfl⟩ := owns_slice0 h2
    have c0 := kb_cell h1
    have z0 := kb_frozen h1
    have n2 : w3.heap.size ≠ w.heap.size := by omega
    have n3 : (Value.slice A n cap).ownBlock ≠ some w.heap.size := fun e => by have := (h2.lt _ e).1; omega
    have hs' := Lib.hid hs
    have H2 := Lib.hid h2
    clear hs D0 D1 D2 h2
    gi_wp2
    have hD2 := kb_far hD (p := ⟨w.heap.size, 0, none⟩) n2 (.slice A n cap)
    have h5' := kb_set (i := 0) h1 (.slice A n cap)
    have b4 : Below w.heap.size w (W.setCell ⟨w.heap.size, 0, none⟩ (.slice A n cap)) := by (repeat (with_reducible (first | exact Below.refl _ _ | assumption | refine bl_alloc ?_ _ | refine bl_drew ?_ | refine bl_drewN ?_ _ | (refine bl_set ?_ ?_ _; (focus (first | (simp; done) | (simp; omega) | omega))) | refine bl_then ?_ (by assumption))))
    refine ⟨by simp, .inl ⟨_, _, rfl, run_takeDeferred hD2, ?_⟩⟩
    have g3 := kb_cell (kb_put h5' (l := w3.heap.size) n2.symm (.deferred none))
    have r1 : (W.setCell ⟨w.heap.size, 0, none⟩ (.slice A n cap)).ownsRow (w.heap.size + 3) 3 1 (.slice A n cap) n (intVs xs) :=
      H2.out.kept (row := some w.heap.size) ⟨rfl, rfl, rfl, by simp, fun b _ hb => Below.heap_setCell _ _ _ _ (fun e => hb (by rw [e]))⟩ (.inr n3)
    refine ⟨.slice A n cap, by simp [results, Try.f9, go_sem, g3], _, rfl, by rw [HNX.out.1, HNX.out.2]; exact owns_mono (own_defd r1 hD2 _) (Nat.le_add_right _ 3), bl_put b4 (by have := hs'.out; omega) _⟩
end Go.Proofs.Ytlnhofpjeinadaa
