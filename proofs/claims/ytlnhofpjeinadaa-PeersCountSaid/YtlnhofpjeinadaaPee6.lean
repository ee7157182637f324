/- The walks of the reference of peers: the best one of a role; Primary. -/
import Derived.Test.YtlnhofpjeinadaaPee5
namespace Go.Proofs.Ytlnhofpjeinadaa
open Go.RowKit Go.Proofs.Ytlnhofpjeinadaa.Pc Go.Shelf BigFrame
attribute [local go_sem] run_store_float
set_option linter.unusedSimpArgs false
set_option linter.unusedVariables false

/-- The best one of a role among the first k. -/
def topJ (L : List Pr) (role : Int) (k : Nat) : Option (Pr × Nat) := top ((L.zipIdx.take k).filter (askR role))
theorem topJ_skip {L : List Pr} {i : Nat} {x : Pr} (h : L[i]? = some x) {role : Int} (hr : (x.role == role) = false) : topJ L role (i + 1) = topJ L role i := by
  unfold topJ
  rw [take_nextM h, hr]; simp
theorem topJ_take {L : List Pr} {i : Nat} {x : Pr} (h : L[i]? = some x) {role : Int} (hr : (x.role == role) = true) : topJ L role (i + 1) = topS (topJ L role i) (x, i) := by
  unfold topJ top
  rw [take_nextM h, hr, if_pos rfl, List.foldl_append]; rfl
theorem topJ_all (L : List Pr) (role : Int) : atI (topJ L role L.length) = bestI L role := by
  unfold topJ bestI
  rw [take_allM]
theorem topJ_mem {L : List Pr} {role : Int} {k : Nat} {t : Pr × Nat} (h : topJ L role k = some t) : L[t.2]? = some t.1 := by
  have h1 := List.mem_of_mem_take (List.mem_filter.1 (top_mem h)).1
  obtain ⟨x, i⟩ := t
  rw [List.mem_zipIdx_iff_getElem?] at h1
  exact h1

set_option maxHeartbeats 2000000 in
theorem rbest_any {w : World} {q g : Nat} {L : List Pr} (F : RP w q g L) (role : Int) :
    Calls Try.prog 44 #[.pointer (some ⟨q, 0, none⟩), .int .i64 role] w fun e w' => e = .returned (.int .i64 (bestI L role)) ∧ Below w.heap.size w w' := by
  obtain ⟨cap, hst⟩ := F.st
  have HB := Lib.hid hst
  have hql := F.ltq
  have HF := Lib.hid F
  have hL := F.hi
  have HA := Lib.hid (topJ_all L role)
  obtain ⟨n, hn⟩ : ∃ n, L.length = n := ⟨_, rfl⟩
  have HN := Lib.hid hn
  rw [hn] at HB hL HA
  clear F hst hn
  go_enter Try.func44, Try.ntmps44
  go_wp2
  go_loopw [5, 6, 7, 8, 9, 10, 11, 12, 13, 14, 15, 16, 17, 18, 19, 20, 21, 22, 23, 24, 25, 26, 27, 28, 29, 30, 31, 32, 33, 34, 35, 36, 37, 38, 39, 40, 41, 42, 43, 44, 45, 46, 47, 48, 49] (fun s5 s6 _ _ _ _ _ _ _ _ _ _ _ _ _ _ _ _ _ _ _ _ _ _ _ _ _ _ _ _ _ _ _ _ _ _ _ _ _ _ _ _ _ _ _ wr => ∃ k : Nat, k ≤ n ∧ s6 = .int .i64 k ∧ s5 = .int .i64 (atI (topJ L role k)) ∧ Below w.heap.size w wr) (fun _ s6 _ _ _ _ _ _ _ _ _ _ _ _ _ _ _ _ _ _ _ _ _ _ _ _ _ _ _ _ _ _ _ _ _ _ _ _ _ _ _ _ _ _ _ _ => n - (intOf s6).toNat)
  case atStart => exact ⟨0, by omega, rfl, rfl, Below.refl _ _⟩
  case round =>
    obtain ⟨k, hk, rfl, rfl, hnx⟩ := hrel
    have hcB := kb_below hnx HB.out
    have c := kb_cell hcB
    have lq := kb_lt hcB
    clear hcB
    by_cases hlt : k < n
    · obtain ⟨x, hx⟩ : ∃ x, L[k]? = some x := ⟨_, List.getElem?_eq_getElem (by have := HN.out; omega)⟩
      have F := HF.out.below hnx
      have e0 := F.cell0 hx _ rfl
      have e2 := F.cell hx 2 _ rfl
      have e3 := F.cell hx 3 _ rfl
      have hgl := F.ltg
      have cq := c 0
      have hsz := hnx.size
      have xf := (F.fit x (List.mem_of_getElem? hx)).p
      cases hr : x.role == role
      · have HT := Lib.hid (topJ_skip hx hr)
        clear F hx xf
        go_wp2_with fail
        (refine wp_region_below (by kernel_rfl) (by kernel_rfl) ?_; (repeat (first | go_big_quiet_skip | (go_big_quiet_want; first | (go_big_quiet_op; go_big_quiet_on) | (apply Exists.intro; refine ⟨fun W hW => ?_, ?_⟩; (focus (have cq_r := (hW.cell (by exact lq)).trans cq; have e0_r := (hW.cell (by exact hgl)).trans e0; unfold Oper.quietAt; go_simp; first | exact rfl | exact ⟨rfl, rfl⟩)); go_big_quiet_on; simp only [Act.put, List.setIfInBounds_toArray, List.set_cons_succ, List.set_cons_zero])))); refine wpQuiet_nil ?_; intro w1 hb1; have hz1 := hb1.size)
        go_wp2
        go_roundw
        case rel => exact ⟨k + 1, by omega, by go_num, by rw [HT.out], bl_then hnx hb1⟩
        case measure => simp [intOf]; omega
      · have hT := topJ_take hx hr
        have hM : ∀ t, topJ L role k = some t → L[t.2]? = some t.1 := fun t h => topJ_mem h
        generalize topJ L role k = o at *
        cases o with
        | none =>
          have HT := Lib.hid hT
          clear F hx xf hT hM
          simp only [atI]
          go_wp2_with fail
          (refine wp_region_below (by kernel_rfl) (by kernel_rfl) ?_; (repeat (first | go_big_quiet_skip | (go_big_quiet_want; first | (go_big_quiet_op; go_big_quiet_on) | (apply Exists.intro; refine ⟨fun W hW => ?_, ?_⟩; (focus (have cq_r := (hW.cell (by exact lq)).trans cq; have e0_r := (hW.cell (by exact hgl)).trans e0; unfold Oper.quietAt; go_simp; first | exact rfl | exact ⟨rfl, rfl⟩)); go_big_quiet_on; simp only [Act.put, List.setIfInBounds_toArray, List.set_cons_succ, List.set_cons_zero])))); refine wpQuiet_nil ?_; intro w1 hb1; have hz1 := hb1.size)
          go_wp2
          go_roundw
          case rel => exact ⟨k + 1, by omega, by go_num, by rw [HT.out]; rfl, bl_then hnx hb1⟩
          case measure => simp [intOf]; omega
        | some t =>
          have ht := hM t rfl
          have d2 := F.cell ht 2 _ rfl
          have d3 := F.cell ht 3 _ rfl
          have tf := (F.fit t.1 (List.mem_of_getElem? ht)).p
          have htl : t.2 < n := by rw [← HN.out]; exact (List.getElem?_eq_some_iff.1 ht).1
          have hs1 : topS (some t) (x, k) = if betM x.s x.p t.1.s t.1.p then some (x, k) else some t := rfl
          rw [hs1] at hT
          obtain ⟨y, j⟩ := t
          simp only at ht d2 d3 tf htl hT
          have hd : decide (((j : Nat) : Int) < 0) = false := decide_eq_false (by omega)
          have hB := Lib.hid (fun W => rBetter_any x.s x.p y.s y.p W xf tf)
          cases hbet : betM x.s x.p y.s y.p
          · rw [hbet] at hB hT
            have HT := Lib.hid hT
            clear F hx xf hT hM ht tf hs1 hbet
            simp only [atI]
            go_wp2_with fail
            (refine wp_region_below (by kernel_rfl) (by kernel_rfl) ?_; (repeat (first | go_big_quiet_skip | (go_big_quiet_want; first | (go_big_quiet_op; go_big_quiet_on) | (apply Exists.intro; refine ⟨fun W hW => ?_, ?_⟩; (focus (have cq_r := (hW.cell (by exact lq)).trans cq; have e0_r := (hW.cell (by exact hgl)).trans e0; have e2_r := (hW.cell (by exact hgl)).trans e2; have e3_r := (hW.cell (by exact hgl)).trans e3; have d2_r := (hW.cell (by exact hgl)).trans d2; have d3_r := (hW.cell (by exact hgl)).trans d3; unfold Oper.quietAt; go_simp; first | exact rfl | exact ⟨rfl, rfl⟩ | (go_at_call 61; exact q_call hW (hB.out _)))); go_big_quiet_on; simp only [Act.put, List.setIfInBounds_toArray, List.set_cons_succ, List.set_cons_zero])))); refine wpQuiet_nil ?_; intro w1 hb1; have hz1 := hb1.size)
            go_wp2
            go_roundw
            case rel => exact ⟨k + 1, by omega, by go_num, by rw [HT.out]; rfl, bl_then hnx hb1⟩
            case measure => simp [intOf]; omega
          · rw [hbet] at hB hT
            have HT := Lib.hid hT
            clear F hx xf hT hM ht tf hs1 hbet
            simp only [atI]
            go_wp2_with fail
            (refine wp_region_below (by kernel_rfl) (by kernel_rfl) ?_; (repeat (first | go_big_quiet_skip | (go_big_quiet_want; first | (go_big_quiet_op; go_big_quiet_on) | (apply Exists.intro; refine ⟨fun W hW => ?_, ?_⟩; (focus (have cq_r := (hW.cell (by exact lq)).trans cq; have e0_r := (hW.cell (by exact hgl)).trans e0; have e2_r := (hW.cell (by exact hgl)).trans e2; have e3_r := (hW.cell (by exact hgl)).trans e3; have d2_r := (hW.cell (by exact hgl)).trans d2; have d3_r := (hW.cell (by exact hgl)).trans d3; unfold Oper.quietAt; go_simp; first | exact rfl | exact ⟨rfl, rfl⟩ | (go_at_call 61; exact q_call hW (hB.out _)))); go_big_quiet_on; simp only [Act.put, List.setIfInBounds_toArray, List.set_cons_succ, List.set_cons_zero])))); refine wpQuiet_nil ?_; intro w1 hb1; have hz1 := hb1.size)
            go_wp2
            go_roundw
            case rel => exact ⟨k + 1, by omega, by go_num, by rw [HT.out]; rfl, bl_then hnx hb1⟩
            case measure => simp [intOf]; omega
    · obtain rfl : k = n := by omega
      go_wp2
      go_ret
      exact ⟨ret_int HA.out, hnx⟩

set_option maxHeartbeats 1000000 in
theorem rPrimary_any {w : World} {q g : Nat} {L : List Pr} (F : RP w q g L) : Calls Try.prog 47 #[.pointer (some ⟨q, 0, none⟩)] w fun e w' => e = .returned (.int .i64 (bestI L 3)) ∧ Below w.heap.size w w' := by
  go_enter Try.func47, Try.ntmps47
  go_wp2_with (go_at_call 44; (with_reducible refine (rbest_any F 3).mono ?_); rintro e w1 ⟨rfl, hb1⟩; have hz1 := hb1.size)
  go_ret
  exact ⟨rfl, by (repeat (with_reducible (first | exact Below.refl _ _ | assumption | refine bl_alloc ?_ _ | refine bl_drew ?_ | refine bl_drewN ?_ _ | (refine bl_set ?_ ?_ _; (focus (first | (simp; done) | (simp; omega) | omega))) | refine bl_then ?_ (by assumption))))⟩
end Go.Proofs.Ytlnhofpjeinadaa
