/- PaceMeans: the walk (in the making). -/
import Derived.Test.YtgjampkdnpdblaaPace7
namespace Go.Proofs.Ytgjampkdnpdblaa
open Go.RowKit Go.Proofs.Ytgjampkdnpdblaa.Pc BigFrame

theorem owns_below {w w' : World} {B n : Nat} {v : Value} {xs : List Value} (h : w.ownsRow B 23 1 v n xs) (hb : Below w.heap.size w w') : w'.ownsRow B 23 1 v n xs :=
  ⟨h.1, h.2.imp id fun ⟨g, cap, cur, hv, hB, hh, r⟩ => ⟨g, cap, cur, hv, hB, (hb.block g (kb_lt hh)).trans hh, r⟩⟩

set_option maxRecDepth 100000 in
set_option maxHeartbeats 1000000 in
theorem PaceMeans_some (b off cap : Nat) (zs : List Int) (w : World) (hs : Small zs) (hb : b < w.heap.size)
    (hc : ∀ k, k < zs.length → w.cell? ⟨b, off + k, none⟩ = some (.int .u64 (zs.getD k 0))) :
    Calls Try.prog 4 #[.slice (some ⟨b, off, none⟩) zs.length cap] w fun e w' => e = .returned (.bool true) ∧ Below w.heap.size w w' := by
  have hl := hs.1
  have hc' := Lib.hid hc
  clear hc
  go_enter Try.func4, Try.ntmps4
  go_wp2_with fail
  refine (paces_some b off cap zs _ hl hb hc'.out).mono ?_
  rintro e w1 ⟨v1, rfl, O1, b1⟩
  go_wp2_with fail
  refine (Mean_owns O1 hs).mono ?_
  rintro e w2 ⟨r1, rfl, e1, _, b2⟩
  have E1 := Lib.hid e1
  clear e1
  have b12 := bl_then b1 b2
  have hb2 : b < w2.heap.size := Nat.lt_of_lt_of_le hb b12.size
  go_wp2_with fail
  refine (paces_some b off cap zs _ hl hb2 (fun k hk => (b12.cell (by exact hb)).trans (hc'.out k hk))).mono ?_
  rintro e w3 ⟨v3, rfl, O3, b3⟩
  have b13 := bl_then b12 b3
  go_wp2_with fail
  refine (rMean_owns O3 hs).mono ?_
  rintro e w4 ⟨r2, rfl, e2, _, b4⟩
  have E2 := Lib.hid e2
  clear e2
  have b14 := bl_then b13 b4
  go_wp2_with fail
  refine (same_t r1 r2 _ (E1.out.trans E2.out.symm)).mono ?_
  rintro e w5 ⟨rfl, rfl⟩
  go_wp2_with fail
  have b24 : Below w1.heap.size w1 w4 := bl_then (bl_then b2 b3) b4
  refine (Least_owns (owns_below O1 b24) hs).mono ?_
  rintro e w5 ⟨rfl, b5⟩
  have b15 := bl_then b14 b5
  have hb5 : b < w5.heap.size := Nat.lt_of_lt_of_le hb b15.size
  go_wp2_with fail
  refine (paces_some b off cap zs _ hl hb5 (fun k hk => (b15.cell (by exact hb)).trans (hc'.out k hk))).mono ?_
  rintro e w6 ⟨v6, rfl, O6, b6⟩
  have b16 := bl_then b15 b6
  go_wp2_with fail
  refine (rLeast_owns O6 hs).mono ?_
  rintro e w7 ⟨rfl, b7⟩
  have b17 := bl_then b16 b7
  have O7 := owns_below O1 (bl_then (bl_then (bl_then b24 b5) b6) b7)
  have hb7 : b < w7.heap.size := Nat.lt_of_lt_of_le hb b17.size
  have hl7 : ∀ k, k < zs.length → w7.cell? ⟨b, off + k, none⟩ = some (.int .u64 (zs.getD k 0)) := fun k hk => (b17.cell (by exact hb)).trans (hc'.out k hk)
  have hL := Lib.hid hl7
  clear hl7
  obtain ⟨_, ⟨rfl, rfl⟩ | ⟨g, cap1, rfl, _, hg, hg7⟩⟩ := owns_open O7
  · go_wp2_with fail
    go_loopw [4, 5, 26, 27, 28, 29, 30, 31, 32, 33, 34, 35, 36, 37, 38, 39, 40, 41, 42, 43, 44, 45, 46, 47, 48, 49, 50, 51, 52, 53, 54, 55, 56, 57, 58, 59, 60] (fun f i _ _ _ _ _ _ _ _ _ _ _ _ _ _ _ _ _ _ _ _ _ _ _ _ _ _ _ _ _ _ _ _ _ _ _ wr => f = .bool true ∧ i = .int .i64 0 ∧ Below w.heap.size w wr) (fun _ _ _ _ _ _ _ _ _ _ _ _ _ _ _ _ _ _ _ _ _ _ _ _ _ _ _ _ _ _ _ _ _ _ _ _ _ _ => 0)
    case atStart => exact ⟨rfl, rfl, b17⟩
    case round =>
      obtain ⟨rfl, rfl, hnx⟩ := hrel
      go_wp2_with (go_at_call 11; (with_reducible refine (awake_any _).mono ?_); rintro e w1 ⟨rfl, hb1⟩; have hz1 := hb1.size)
      go_ret
      exact ⟨rfl, by (repeat (with_reducible (first | exact Below.refl _ _ | assumption | refine bl_alloc ?_ _ | refine bl_drew ?_ | refine bl_drewN ?_ _ | (refine bl_set ?_ ?_ _; (focus (first | (simp; done) | (simp; omega) | omega))) | refine bl_then ?_ (by assumption))))⟩
  · have hG := Lib.hid hg7
    clear hg7
    rw [List.length_map] at hG
    go_wp2_with fail
    go_loopw [4, 5, 26, 27, 28, 29, 30, 31, 32, 33, 34, 35, 36, 37, 38, 39, 40, 41, 42, 43, 44, 45, 46, 47, 48, 49, 50, 51, 52, 53, 54, 55, 56, 57, 58, 59, 60] (fun f i _ _ _ _ _ _ _ _ _ _ _ _ _ _ _ _ _ _ _ _ _ _ _ _ _ _ _ _ _ _ _ _ _ _ _ wr => ∃ k : Nat, k ≤ zs.length ∧ f = .bool true ∧ i = .int .i64 k ∧ Below w.heap.size w wr ∧ Below w7.heap.size w7 wr) (fun _ i _ _ _ _ _ _ _ _ _ _ _ _ _ _ _ _ _ _ _ _ _ _ _ _ _ _ _ _ _ _ _ _ _ _ _ _ => zs.length - (intOf i).toNat)
    case atStart => exact ⟨0, Nat.zero_le _, rfl, rfl, b17, Below.refl _ _⟩
    case round =>
      obtain ⟨k, hk, rfl, rfl, hnx, hn7⟩ := hrel
      by_cases hlt : k < zs.length
      · have hbr : b < wr.heap.size := Nat.lt_of_lt_of_le hb7 hn7.size
        have hgr : g < wr.heap.size := Nat.lt_of_lt_of_le hg hn7.size
        have h1 := (hn7.cell (by exact hb7)).trans (hL.out k hlt)
        have h2 := (hn7.cell (by exact hg)).trans (hG.out k hlt)
        have hz : (zs.map Int.toNat).getD k 0 = (zs.getD k 0).toNat := by simp [List.getD, List.getElem?_eq_getElem hlt]
        rw [hz, Nat.zero_add] at h2
        generalize zs.getD k 0 = z at h1 h2
        have hr := fun W => run_bits z.toNat W
        go_wp2_with fail
        (refine wp_region_below (by kernel_rfl) (by kernel_rfl) ?_; (repeat (first | go_big_quiet_skip | (go_big_quiet_want; first | (go_big_quiet_op; go_big_quiet_on) | (apply Exists.intro; refine ⟨fun W hW => ?_, ?_⟩; (focus (have h1_r := (hW.cell (by exact hbr)).trans h1; have h2_r := (hW.cell (by exact hgr)).trans h2; unfold Oper.quietAt; go_simp; first | exact rfl | exact ⟨rfl, rfl⟩ | (go_at_call 5; exact q_same hW (of_any _ _)))); go_big_quiet_on; simp only [Act.put, List.setIfInBounds_toArray, List.set_cons_succ, List.set_cons_zero])))); refine wpQuiet_nil ?_; intro w1 hb1; have hz1 := hb1.size)
        have hnx1 := bl_then hnx hb1
        have hn71 := bl_then hn7 hb1
        go_wp2
        go_roundw
        case rel => exact ⟨k + 1, by omega, rfl, by go_num, hnx1, hn71⟩
        case measure => simp [intOf]; omega
      · obtain rfl : k = zs.length := by omega
        go_wp2_with (go_at_call 11; (with_reducible refine (awake_any _).mono ?_); rintro e w1 ⟨rfl, hb1⟩; have hz1 := hb1.size)
        go_ret
        exact ⟨rfl, by (repeat (with_reducible (first | exact Below.refl _ _ | assumption | refine bl_alloc ?_ _ | refine bl_drew ?_ | refine bl_drewN ?_ _ | (refine bl_set ?_ ?_ _; (focus (first | (simp; done) | (simp; omega) | omega))) | refine bl_then ?_ (by assumption))))⟩
end Go.Proofs.Ytgjampkdnpdblaa
