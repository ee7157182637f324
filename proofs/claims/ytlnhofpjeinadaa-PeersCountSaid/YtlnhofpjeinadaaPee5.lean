/- The walks of package peers and of its reference: roles, the best one, places. -/
import Derived.Test.YtlnhofpjeinadaaPee4
import Derived.Deep.RegionHeld3
import Derived.BigQuiet
import Derived.Deep.QuietTactic
namespace Go.Proofs.Ytlnhofpjeinadaa
open Go.RowKit Go.Proofs.Ytlnhofpjeinadaa.Pc Go.Shelf BigFrame
attribute [local go_sem] run_store_float
set_option linter.unusedSimpArgs false
set_option linter.unusedVariables false

theorem intVs_next (xs : List Int) (x : Int) : intVs (xs ++ [x]) = intVs xs ++ [.int .i64 x] := by simp [intVs]
theorem roles_next {L : List Pr} {i : Nat} {x : Pr} (h : L[i]? = some x) : rolesI (L.take (i + 1)) = rolesI (L.take i) ++ [x.role] := by
  unfold rolesI
  rw [List.take_add_one, h, List.map_append]; rfl
/-- What a row of ints is behind one more. -/
theorem i_rel {n k : Nat} {xs : List Int} {x : Int} {w wr w0 w1 : World} {v v' : Value} (hown : wr.ownsRow w.heap.size 3 1 v k (intVs xs)) (hnx : Below w.heap.size w wr) (h0 : Below wr.heap.size wr w0)
    (hown' : w1.ownsRow w.heap.size 3 1 v' (k + 1) (intVs xs ++ [.int .i64 x])) (hgrow : w0.grownBy w1 v.ownBlock) :
    w1.ownsRow w.heap.size 3 1 v' (k + 1) (intVs (xs ++ [x])) ∧ Below w.heap.size w w1 := by
  have hs := hnx.size
  exact ⟨by rw [intVs_next]; exact hown', (bl_then hnx h0).grown hgrow (by have := h0.size; omega) (fun j hj => (hown.lt j hj).1)⟩

set_option maxHeartbeats 1000000 in
theorem Roles_any {w : World} {q g : Nat} {L : List Pr} (F : PP w q g L) :
    Calls Try.prog 28 #[.pointer (some ⟨q, 0, none⟩)] w fun e w' => ∃ v, e = .returned v ∧ w'.ownsRow w.heap.size 3 1 v L.length (intVs (rolesI L)) ∧ Below w.heap.size w w' := by
  obtain ⟨i0, hi, hz0, hz1, hz2⟩ := info_parts infoI
  obtain ⟨cap, hst⟩ := F.st
  have c := kb_cell hst
  have hql := F.ltq
  have HF := Lib.hid F
  have hL := F.hi
  obtain ⟨n, hn⟩ : ∃ n, L.length = n := ⟨_, rfl⟩
  have HN := Lib.hid hn
  rw [hn] at c hL ⊢
  clear F hst hn
  go_enter Try.func28, Try.ntmps28
  go_wp2_with (go_at_call 33; (with_reducible refine (none_no HF.out).mono ?_); rintro e w1 ⟨rfl, rfl⟩)
  go_loopw [2, 4, 12, 13, 14, 15, 16, 17, 18, 19, 20, 21] (fun s2 _ s12 _ _ _ _ _ _ _ _ _ wr => ∃ k : Nat, k ≤ n ∧ s12 = .int .i64 k ∧ Hid (wr.ownsRow w.heap.size 3 1 s2 k (intVs (rolesI (L.take k)))) ∧ Below w.heap.size w wr) (fun _ _ s12 _ _ _ _ _ _ _ _ _ _ => n - (intOf s12).toNat)
  case atStart => exact ⟨0, by omega, rfl, World.ownsRow_nil _ _ _ _, Below.refl _ _⟩
  case round =>
    obtain ⟨k, hk, rfl, hown, hnx⟩ := hrel
    have ho := hown.out
    obtain ⟨A, ca, rfl⟩ := owns_slice0 ho
    by_cases hlt : k < n
    · obtain ⟨x, hx⟩ : ∃ x, L[k]? = some x := ⟨_, List.getElem?_eq_getElem (by have := HN.out; omega)⟩
      have F := HF.out.below hnx
      have e0 := F.cell0 hx _ rfl
      have e1 := F.cell hx 1 _ rfl
      have e2 := F.cell hx 2 _ rfl
      have e3 := F.cell hx 3 _ rfl
      have hgl := F.ltg
      have HX := Lib.hid (roles_next hx)
      have hsz := hnx.size
      clear F hx
      go_wp2_with (at_builtin; refine wpList_append_own _ rfl _ _ 25 rfl w.heap.size 3 i0 (.int .i64 0) 1 8 Try.underlying25 hi hz0 hz1 hz2 rfl (by decide) _ _ _ rfl ((ho.alloc _).alloc _) ⟨wr.heap.size + 1, 0, none⟩ 1 1 [.int .i64 x.role] rfl rfl (by have := cell_one_new (wr.alloc (.cells #[.int .i64 x.s, .float .f64 x.p, .int .i64 x.role, .int .i64 x.strikes] 71)) (.int .i64 x.role) 3; simpa using this) ?c2 ?c3 ?c4 ?c5 ?_)
      case c2 => intro v hv; simp at hv; subst hv; rfl
      case c3 => unfold maxLen; omega
      case c4 => omega
      case c5 => simp; omega
      · intro v' w1 hown' hgrow _
        have R := i_rel (n := 0) ho hnx (bl_alloc (bl_alloc (Below.refl _ wr) _) _) hown' hgrow
        rw [← HX.out] at R
        have R1 := Lib.hid R.1
        have R2 := R.2
        clear hown' hgrow hown hnx ho R e0 e1 e2 e3
        go_wp2
        go_roundw
        case rel => exact ⟨k + 1, by omega, by go_num, R1, R2⟩
        case measure => simp [intOf]; omega
    · obtain rfl : k = n := by omega
      have hT : L.take k = L := List.take_of_length_le (by rw [HN.out]; exact Nat.le_refl _)
      rw [hT] at hown
      go_wp2
      go_ret
      exact ⟨_, rfl, hown.out, hnx⟩

set_option maxHeartbeats 1000000 in
theorem rRoles_any {w : World} {q g : Nat} {L : List Pr} (F : RP w q g L) :
    Calls Try.prog 46 #[.pointer (some ⟨q, 0, none⟩)] w fun e w' => ∃ v, e = .returned v ∧ w'.ownsRow w.heap.size 3 1 v L.length (intVs (rolesI L)) ∧ Below w.heap.size w w' := by
  obtain ⟨i0, hi, hz0, hz1, hz2⟩ := info_parts infoI
  obtain ⟨cap, hst⟩ := F.st
  have HB := Lib.hid hst
  have hql := F.ltq
  have HF := Lib.hid F
  have hL := F.hi
  obtain ⟨n, hn⟩ : ∃ n, L.length = n := ⟨_, rfl⟩
  have HN := Lib.hid hn
  rw [hn] at HB hL ⊢
  clear F hst hn
  go_enter Try.func46, Try.ntmps46
  go_wp2
  go_loopw [3, 4, 5, 6, 7, 8, 9, 10, 11, 12, 13, 14, 15, 16, 17, 18, 19, 20, 21, 22, 23, 24] (fun s3 s4 _ _ _ _ _ _ _ _ _ _ _ _ _ _ _ _ _ _ _ _ wr => ∃ k : Nat, k ≤ n ∧ s4 = .int .i64 k ∧ Hid (wr.ownsRow w.heap.size 3 1 s3 k (intVs (rolesI (L.take k)))) ∧ Below w.heap.size w wr) (fun _ s4 _ _ _ _ _ _ _ _ _ _ _ _ _ _ _ _ _ _ _ _ _ => n - (intOf s4).toNat)
  case atStart => exact ⟨0, by omega, rfl, World.ownsRow_nil _ _ _ _, Below.refl _ _⟩
  case round =>
    obtain ⟨k, hk, rfl, hown, hnx⟩ := hrel
    have ho := hown.out
    obtain ⟨A, ca, rfl⟩ := owns_slice0 ho
    have c := kb_cell (kb_below hnx HB.out)
    by_cases hlt : k < n
    · obtain ⟨x, hx⟩ : ∃ x, L[k]? = some x := ⟨_, List.getElem?_eq_getElem (by have := HN.out; omega)⟩
      have F := HF.out.below hnx
      have e0 := F.cell0 hx _ rfl
      have HX := Lib.hid (roles_next hx)
      have hsz := hnx.size
      clear F hx
      go_wp2_with (at_builtin; refine wpList_append_own _ rfl _ _ 25 rfl w.heap.size 3 i0 (.int .i64 0) 1 8 Try.underlying25 hi hz0 hz1 hz2 rfl (by decide) _ _ _ rfl (ho.alloc _) ⟨wr.heap.size, 0, none⟩ 1 1 [.int .i64 x.role] rfl rfl (cell_one_new _ _ _) ?c2 ?c3 ?c4 ?c5 ?_)
      case c2 => intro v hv; simp at hv; subst hv; rfl
      case c3 => unfold maxLen; omega
      case c4 => omega
      case c5 => simp; omega
      · intro v' w1 hown' hgrow _
        have R := i_rel (n := 0) ho hnx (bl_alloc (Below.refl _ wr) _) hown' hgrow
        rw [← HX.out] at R
        have R1 := Lib.hid R.1
        have R2 := R.2
        clear hown' hgrow hown hnx ho R e0 c
        go_wp2
        go_roundw
        case rel => exact ⟨k + 1, by omega, by go_num, R1, R2⟩
        case measure => simp [intOf]; omega
    · obtain rfl : k = n := by omega
      have hT : L.take k = L := List.take_of_length_le (by rw [HN.out]; exact Nat.le_refl _)
      rw [hT] at hown
      go_wp2
      go_ret
      exact ⟨_, rfl, hown.out, hnx⟩

/-- The places of a role among the first k. -/
def allJ (L : List Pr) (role : Int) (k : Nat) : List Int := ((L.zipIdx.take k).filter (askR role)).map fun y => (y.2 : Int)
theorem take_nextM {L : List Pr} {i : Nat} {x : Pr} (h : L[i]? = some x) (role : Int) : (L.zipIdx.take (i + 1)).filter (askR role) = (L.zipIdx.take i).filter (askR role) ++ if x.role == role then [(x, i)] else [] := by
  rw [List.take_add_one, idx_at h, Option.toList_some, List.filter_append, List.filter_cons]
  unfold askR
  rfl
theorem take_allM (L : List Pr) (role : Int) : (L.zipIdx.take L.length).filter (askR role) = ofs L role := by
  rw [List.take_of_length_le (by rw [List.length_zipIdx]; exact Nat.le_refl _)]; rfl

set_option maxHeartbeats 1000000 in
theorem rAll_any {w : World} {q g : Nat} {L : List Pr} (F : RP w q g L) (role : Int) :
    Calls Try.prog 53 #[.pointer (some ⟨q, 0, none⟩), .int .i64 role] w fun e w' => ∃ v, e = .returned v ∧ w'.ownsRow w.heap.size 3 1 v (ofs L role).length (intVs (allI L role)) ∧ Below w.heap.size w w' := by
  obtain ⟨i0, hi, hz0, hz1, hz2⟩ := info_parts infoI
  obtain ⟨cap, hst⟩ := F.st
  have HB := Lib.hid hst
  have hql := F.ltq
  have HF := Lib.hid F
  have hL := F.hi
  have HA := Lib.hid (take_allM L role)
  obtain ⟨n, hn⟩ : ∃ n, L.length = n := ⟨_, rfl⟩
  have HN := Lib.hid hn
  rw [hn] at HB hL HA
  clear F hst hn
  go_enter Try.func53, Try.ntmps53
  go_wp2
  go_loopw [5, 6, 7, 8, 9, 10, 11, 12, 13, 14, 15, 16, 17, 18, 19, 20, 21, 22, 23, 24, 25, 26, 27, 28, 29] (fun s5 s6 _ _ _ _ _ _ _ _ _ _ _ _ _ _ _ _ _ _ _ _ _ _ _ wr => ∃ k : Nat, k ≤ n ∧ s6 = .int .i64 k ∧ Hid (((L.zipIdx.take k).filter (askR role)).length ≤ k ∧ wr.ownsRow w.heap.size 3 1 s5 ((L.zipIdx.take k).filter (askR role)).length (intVs (allJ L role k))) ∧ Below w.heap.size w wr) (fun _ s6 _ _ _ _ _ _ _ _ _ _ _ _ _ _ _ _ _ _ _ _ _ _ _ _ => n - (intOf s6).toNat)
  case atStart => exact ⟨0, by omega, rfl, ⟨Nat.le_refl _, World.ownsRow_nil _ _ _ _⟩, Below.refl _ _⟩
  case round =>
    obtain ⟨k, hk, rfl, hown, hnx⟩ := hrel
    obtain ⟨hm, ho⟩ := hown.out
    obtain ⟨A, ca, rfl⟩ := owns_slice0 ho
    have c := kb_cell (kb_below hnx HB.out)
    by_cases hlt : k < n
    · obtain ⟨x, hx⟩ : ∃ x, L[k]? = some x := ⟨_, List.getElem?_eq_getElem (by have := HN.out; omega)⟩
      have F := HF.out.below hnx
      have e0 := F.cell0 hx _ rfl
      have hT := take_nextM hx role
      have hsz := hnx.size
      clear F hx
      cases hr : x.role == role
      · rw [hr] at hT
        simp only [Bool.false_eq_true, if_false, List.append_nil] at hT
        have HT := Lib.hid hT
        clear hT hm ho
        go_wp2
        go_roundw
        case rel => exact ⟨k + 1, by omega, by go_num, by unfold allJ; rw [HT.out]; exact ⟨by have := hown.out.1; omega, hown.out.2⟩, hnx⟩
        case measure => simp [intOf]; omega
      · rw [hr] at hT
        simp only [if_true] at hT
        have HT := Lib.hid hT
        have hm' : ((L.zipIdx.take k).filter (askR role)).length ≤ 16 := by omega
        have HM := Lib.hid (show ((L.zipIdx.take (k + 1)).filter (askR role)).length = ((L.zipIdx.take k).filter (askR role)).length + 1 ∧ allJ L role (k + 1) = allJ L role k ++ [(k : Int)] by unfold allJ; rw [hT]; simp)
        unfold allJ at ho HM
        clear hown
        generalize (L.zipIdx.take k).filter (askR role) = M at *
        generalize hmm : M.length = m at *
        clear hT HT
        go_wp2_with (at_builtin; refine wpList_append_own _ rfl _ _ 25 rfl w.heap.size 3 i0 (.int .i64 0) 1 8 Try.underlying25 hi hz0 hz1 hz2 rfl (by decide) _ _ _ rfl (ho.alloc _) ⟨wr.heap.size, 0, none⟩ 1 1 [.int .i64 k] rfl rfl (cell_one_new _ _ _) ?c2 ?c3 ?c4 ?c5 ?_)
        case c2 => intro v hv; simp at hv; subst hv; rfl
        case c3 => unfold maxLen; omega
        case c4 => omega
        case c5 => simp; omega
        · intro v' w1 hown' hgrow _
          have R := i_rel (n := 0) ho hnx (bl_alloc (Below.refl _ wr) _) hown' hgrow
          rw [← HM.out.2] at R
          have R1 := Lib.hid R.1
          have R2 := R.2
          clear hown' hgrow hnx ho R e0 c
          go_wp2
          go_roundw
          case rel => exact ⟨k + 1, by omega, by go_num, ⟨by rw [HM.out.1]; omega, by rw [HM.out.1]; unfold allJ; exact R1.out⟩, R2⟩
          case measure => simp [intOf]; omega
    · obtain rfl : k = n := by omega
      unfold allJ at hown
      clear hm ho
      go_wp2
      go_ret
      exact ⟨_, rfl, by unfold allI; rw [← HA.out]; exact hown.out.2, hnx⟩
end Go.Proofs.Ytlnhofpjeinadaa
