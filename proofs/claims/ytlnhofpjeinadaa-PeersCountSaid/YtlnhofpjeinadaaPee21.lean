/- The law package's stand: do both stand alike? -/
import Derived.Test.YtlnhofpjeinadaaPee20
namespace Go.Proofs.Ytlnhofpjeinadaa
open Go.RowKit Go.Proofs.Ytlnhofpjeinadaa.Pc BigFrame
attribute [local go_sem] run_store_float
set_option linter.unusedSimpArgs false
set_option linter.unusedVariables false

theorem rolesI_len (L : List Pr) : (rolesI L).length = L.length := by simp [rolesI]
theorem own_len {w : World} {B n : Nat} {v : Value} {xs : List Int} (h : w.ownsRow B 3 1 v n (intVs xs)) : n = xs.length := by have := h.1; simp [intVs] at this; omega
theorem rowOf_own {w w' : World} {B n : Nat} {v : Value} {xs : List Int} (h : w.ownsRow B 3 1 v n (intVs xs)) (hb : Below w.heap.size w w') : RowOf w' v xs.length (intVs xs) := by
  have := own_len h
  subst this
  exact (RowOf.of_own h).below hb
theorem own_bl {w w' : World} {B n : Nat} {v : Value} {xs : List Value} {e : TypeId} (h : w.ownsRow B e 1 v n xs) (hb : Below w.heap.size w w') : w'.ownsRow B e 1 v n xs := (Keep.of_below (S := fun _ => False) hb).row h (fun _ _ h => h)
theorem over_bl {w w1 w2 : World} {B n : Nat} {v : Value} {xs : List Value} {e : TypeId} (h : w1.ownsRow B e 1 v n xs) (hB : w.heap.size ≤ B) (hb : Below w.heap.size w w1) (k : Keep (fun b => v.ownBlock = some b) w1 w2) : Below w.heap.size w w2 :=
  hb.trans (k.below hb.size (fun b e => by have := (h.lt b e).1; omega))

set_option maxRecDepth 100000 in
set_option maxHeartbeats 4000000 in
theorem stand_any {w : World} {q g q' g' : Nat} {X : List Pr} (P : PQ w q g X) (R : RQ w q' g' X) (who : Int) : Calls Try.prog 25 #[.pointer (some ⟨q, 0, none⟩), .pointer (some ⟨q', 0, none⟩), .int .i64 who] w fun e w' => e = .returned (.bool true) ∧ Below w.heap.size w w' := by
  have HP := Lib.hid P
  have HR := Lib.hid R
  have hX := P.hi
  obtain ⟨cap, hst⟩ := R.st
  have HS := Lib.hid hst
  have hrl := rolesI_len X
  obtain ⟨n, hn⟩ : ∃ n, X.length = n := ⟨_, rfl⟩
  rw [hn] at hX HS hrl
  have HRL := Lib.hid hrl
  clear P R hst hn hrl
  go_enter Try.func25, Try.ntmps25
  go_wp2_with fail
  refine (qRoles_q HP.out).mono ?_
  rintro e w1 ⟨v1, rfl, o1, b1⟩
  have O1 := Lib.hid o1
  clear o1
  go_wp2_with fail
  refine (rRoles_q (HR.out.below b1)).mono ?_
  rintro e w2 ⟨v2, rfl, o2, b2⟩
  have O2 := Lib.hid o2
  clear o2
  have b12 := bl_then b1 b2
  go_wp2_with fail
  refine (SameInts_any (xs := rolesI X) (ys := rolesI X) (rowOf_own O1.out b2) (rowOf_own O2.out (Below.refl _ _)) (by rw [HRL.out]; omega) (by rw [HRL.out]; omega)).mono ?_
  rintro e w3 ⟨rfl, b3⟩
  have b13 := bl_then b12 b3
  rw [show (rolesI X == rolesI X) = true from beq_self_eq_true _]
  go_wp2_with fail
  refine (qPrimary_q (HP.out.below b13)).mono ?_
  rintro e w4 ⟨rfl, b4⟩
  have b14 := bl_then b13 b4
  go_wp2_with fail
  refine (rPrimary_q (HR.out.below b14)).mono ?_
  rintro e w5 ⟨rfl, b5⟩
  have b15 := bl_then b14 b5
  have hp : (bestI X 3 != bestI X 3) = false := by simp
  go_wp2_with fail
  refine (qRole_q (HP.out.below b15) who).mono ?_
  rintro e w6 ⟨rfl, rfl⟩
  go_wp2_with fail
  refine (rRole_q (HR.out.below b15) who).mono ?_
  rintro e w6 ⟨rfl, rfl⟩
  have hr : (roleI X who != roleI X who) = false := by simp
  go_wp2_with fail
  refine (qStrikes_q (HP.out.below b15) who).mono ?_
  rintro e w6 ⟨rfl, rfl⟩
  go_wp2_with fail
  refine (rStrikes_q (HR.out.below b15) who).mono ?_
  rintro e w6 ⟨rfl, rfl⟩
  have hs : (strikesI X who != strikesI X who) = false := by simp
  have O15 := Lib.hid (own_bl O1.out (bl_then b2 (bl_then b3 (bl_then b4 b5))))
  have hxn : X.length ≤ 1000 := by have := HP.out.hi; omega
  go_wp2_with fail
  refine (OverInts_any O15.out hxn).mono ?_
  rintro e w6 ⟨rfl, k6⟩
  have b16 := over_bl O15.out (Nat.le_refl _) b15 k6
  clear b1 b2 b12 b3 b13 b4 b14 b5 b15 hp hr hs O1 O2 O15 k6 hxn
  go_wp2_with fail
  go_loopw [8, 9, 10, 11, 12, 49, 50, 51, 52, 53, 54, 55, 56, 57, 58, 59, 60, 61, 62, 63, 64, 65, 66, 67, 68, 69, 70, 71, 72, 73, 74, 75, 76, 77, 78] (fun s8 _ _ _ _ _ _ _ _ _ _ _ _ _ _ _ _ _ _ _ _ _ _ _ _ _ _ _ _ _ _ _ _ _ _ wr => ∃ k : Nat, k ≤ n + 2 ∧ s8 = .int .i64 ((k : Int) - 1) ∧ Below w.heap.size w wr) (fun s8 _ _ _ _ _ _ _ _ _ _ _ _ _ _ _ _ _ _ _ _ _ _ _ _ _ _ _ _ _ _ _ _ _ _ _ => n + 2 - (intOf s8 + 1).toNat)
  case atStart => exact ⟨0, by omega, by simp, b16⟩
  case round =>
    obtain ⟨k, hk, rfl, hnx⟩ := hrel
    have c := kb_cell (kb_below hnx HS.out)
    by_cases hlt : k < n + 2
    · have hle : (k : Int) - 1 ≤ (n : Int) := by omega
      have hi0 : -1 ≤ (k : Int) - 1 := by omega
      obtain ⟨i, hi⟩ : ∃ i, (k : Int) - 1 = i := ⟨_, rfl⟩
      have HI := Lib.hid hi
      rw [hi] at hle hi0 ⊢
      clear hi
      go_wp2_with fail
      refine (qMerit_q (HP.out.below hnx) i).mono ?_
      rintro e w1 ⟨v, rfl, ⟨p, rfl, hp⟩, b1⟩
      have HQ := Lib.hid hp
      have b01 := bl_then hnx b1
      clear hp
      go_wp2_with fail
      refine (rMerit_q (HR.out.below (by (repeat (with_reducible (first | exact Below.refl _ _ | assumption | refine bl_alloc ?_ _ | refine bl_drew ?_ | refine bl_drewN ?_ _ | (refine bl_set ?_ ?_ _; (focus (first | (simp; done) | (simp; omega) | omega))) | refine bl_then ?_ (by assumption)))))) i).mono ?_
      rintro e w2 ⟨v, rfl, ⟨p', rfl, hp'⟩, b2⟩
      have HC := Lib.hid (HQ.out.trans hp'.symm)
      have M1 : w2.heap[w1.heap.size]? = some _ := kb_below b2 (kb_new (w := w1) rfl _)
      have m0 := (kb_cell M1 0).trans rfl
      have m1 := (kb_cell M1 1).trans rfl
      have l1 := kb_lt M1
      have b02 : Below w.heap.size w w2 := by (repeat (with_reducible (first | exact Below.refl _ _ | assumption | refine bl_alloc ?_ _ | refine bl_drew ?_ | refine bl_drewN ?_ _ | (refine bl_set ?_ ?_ _; (focus (first | (simp; done) | (simp; omega) | omega))) | refine bl_then ?_ (by assumption))))
      clear hp' M1 b1 b2 b01
      generalize (merA X i).s = s at *
      generalize isP X i = t at *
      have ht : (t != t) = false := by simp
      go_wp2_with fail
      refine (SameMerit_t s p p' _ HC.out).mono ?_
      rintro e w3 ⟨rfl, b3⟩
      go_wp2
      go_roundw
      case rel => exact ⟨k + 1, by omega, by rw [← HI.out]; go_num, by (repeat (with_reducible (first | exact Below.refl _ _ | assumption | refine bl_alloc ?_ _ | refine bl_drew ?_ | refine bl_drewN ?_ _ | (refine bl_set ?_ ?_ _; (focus (first | (simp; done) | (simp; omega) | omega))) | refine bl_then ?_ (by assumption))))⟩
      case measure => have := HI.out; simp [intOf]; omega
    · obtain rfl : k = n + 2 := by omega
      have hle : ¬ ((n + 2 : Nat) : Int) - 1 ≤ (n : Int) := by omega
      generalize ((n + 2 : Nat) : Int) - 1 = i at *
      go_wp2_with fail
      go_loopw [13, 14, 79, 80, 81, 82, 83, 84, 85, 86, 87, 88, 89, 90, 91, 92, 93] (fun s13 _ _ _ _ _ _ _ _ _ _ _ _ _ _ _ _ wr => ∃ r : Nat, r ≤ 8 ∧ s13 = .int .i64 r ∧ Below w.heap.size w wr) (fun s13 _ _ _ _ _ _ _ _ _ _ _ _ _ _ _ _ _ => 8 - (intOf s13).toNat)
      case atStart => exact ⟨0, by omega, rfl, hnx⟩
      case round =>
        obtain ⟨r, hr8, rfl, hnx⟩ := hrel
        by_cases hlt : r < 8
        · go_wp2_with fail
          refine (qAll_q (HP.out.below hnx) r).mono ?_
          rintro e w1 ⟨v1, rfl, o1, b1⟩
          have O1 := Lib.hid o1
          clear o1
          have b01 := bl_then hnx b1
          go_wp2_with fail
          refine (rAll_q (HR.out.below b01) r).mono ?_
          rintro e w2 ⟨v2, rfl, o2, b2⟩
          have hl : (allI X r).length ≤ 1000 := by have := own_len o2; have := ofs_len X r; have := HP.out.hi; omega
          have O2 := Lib.hid o2
          clear o2
          have b02 := bl_then b01 b2
          go_wp2_with fail
          refine (SameInts_any (xs := allI X r) (ys := allI X r) (rowOf_own O1.out b2) (rowOf_own O2.out (Below.refl _ _)) (by omega) (by omega)).mono ?_
          rintro e w3 ⟨rfl, b3⟩
          have b03 := bl_then b02 b3
          rw [show (allI X r == allI X r) = true from beq_self_eq_true _]
          have O3 := Lib.hid (own_bl O1.out (bl_then b2 b3))
          have hl2 : (ofs X r).length ≤ 1000 := by have := ofs_len X r; have := HP.out.hi; omega
          go_wp2_with fail
          refine (OverInts_any O3.out hl2).mono ?_
          rintro e w4 ⟨rfl, k4⟩
          have b04 := over_bl O3.out hnx.size b03 k4
          clear O1 O2 O3 hl hl2 k4 b1 b2 b3 b01 b02 b03
          go_wp2
          go_roundw
          case rel => exact ⟨r + 1, by omega, by go_num, b04⟩
          case measure => simp [intOf]; omega
        · obtain rfl : r = 8 := by omega
          go_wp2
          go_ret
          exact ⟨rfl, hnx⟩
end Go.Proofs.Ytlnhofpjeinadaa
