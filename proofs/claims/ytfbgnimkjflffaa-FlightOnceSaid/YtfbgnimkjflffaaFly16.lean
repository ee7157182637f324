/- FlightOnce: fits. -/
import Derived.Test.YtfbgnimkjflffaaFly15
import Derived.IntWalk
namespace Go.Proofs.Ytfbgnimkjflffaa
open Go.RowKit Go.Maps
attribute [local go_sem] cell_alloc_some frozen_alloc_some

/-- The requests' cells at a world. -/
theorem reqs_at {w wr : World} {b : Nat} {L : List Rq} {k : Nat} {r : Rq} (q : ∀ (i j : Nat) r, j < 5 → L[i]? = some r → w.cell? ⟨b, i * 5 + j, none⟩ = r.cells[j]?) (hb : Below w.heap.size w wr) (hlt : b < w.heap.size) (hr : L[k]? = some r) :
    wr.cell? ⟨b, k * 5, none⟩ = some (.int .i64 r.id) ∧ wr.cell? ⟨b, k * 5 + 1, none⟩ = some (.int .i64 r.to) ∧ wr.cell? ⟨b, k * 5 + 2, none⟩ = some (.int .i64 r.h) ∧ wr.cell? ⟨b, k * 5 + 3, none⟩ = some (.int .i64 r.at_) ∧ wr.cell? ⟨b, k * 5 + 4, none⟩ = some (.bool r.op) :=
  ⟨(hb.cell (by exact hlt)).trans (q k 0 r (by omega) hr), (hb.cell (by exact hlt)).trans (q k 1 r (by omega) hr), (hb.cell (by exact hlt)).trans (q k 2 r (by omega) hr), (hb.cell (by exact hlt)).trans (q k 3 r (by omega) hr), (hb.cell (by exact hlt)).trans (q k 4 r (by omega) hr)⟩

theorem getR_at {n : Int} {L : List Rq} {k : Nat} {r : Rq} (F : Fine n L) (hr : L[k]? = some r) : getR L r.id = (r, true) := by
  have hid := (F.1 k _ hr).1
  have ha : atR L r.id = some r := by
    unfold atR
    rw [if_pos (by omega), hid, show ((k : Int) + 1 - 1).toNat = k by omega, hr]
  unfold getR
  rw [ha]

set_option maxRecDepth 100000 in
set_option maxHeartbeats 4000000 in
theorem fits_yes (B p m : Nat) (n : Int) (L : List Rq) (v : Value) (w : World) (F : FlE w B p m n L) (hv : Reqs w v L) (hL : L.length ≤ 1000) :
    Calls Try.prog 16 #[.pointer (some ⟨p, 0, none⟩), v, .int .i64 n] w fun e w' => e = .returned (.bool true) ∧ Below w.heap.size w w' := by
  obtain ⟨A, c1, rfl, ha⟩ := hv
  have HA := Lib.hid ha
  have HF := Lib.hid F
  obtain ⟨s, F0⟩ := F
  have HFine := Lib.hid F0.fine
  have hn1 := F0.lo
  have hn2 := F0.hi
  clear ha F0
  go_enter Try.func16, Try.ntmps16
  go_wp2
  go_loopw [7, 9, 10, 11, 12, 16, 17, 18, 19, 20, 21, 22, 23, 24, 25, 26, 27, 28, 29, 30, 31, 32, 33, 34, 35, 36, 37, 38, 39, 40, 41, 42, 43, 44, 45, 46, 47, 48, 49, 50, 51, 52, 53, 54, 55, 56, 57, 58, 59, 60, 61, 62, 63, 64, 65, 66, 67, 68, 69, 70, 71, 72, 73, 74, 75, 76, 77, 78, 79, 80, 81, 82, 83, 84, 85, 86, 87, 88, 89, 90, 91, 92, 93, 94, 95] (fun s7 s9 _ _ _ _ _ _ _ _ _ _ _ _ _ _ _ _ _ _ _ _ _ _ _ _ _ _ _ _ _ _ _ _ _ _ _ _ _ _ _ _ _ _ _ _ _ _ _ _ _ _ _ _ _ _ _ _ _ _ _ _ _ _ _ _ _ _ _ _ _ _ _ _ _ _ _ _ _ _ _ _ _ _ _ wr => ∃ k : Nat, k ≤ L.length ∧ s7 = .int .i64 (opens (L.take k)) ∧ s9 = .int .i64 k ∧ Below w.heap.size w wr) (fun _ s9 _ _ _ _ _ _ _ _ _ _ _ _ _ _ _ _ _ _ _ _ _ _ _ _ _ _ _ _ _ _ _ _ _ _ _ _ _ _ _ _ _ _ _ _ _ _ _ _ _ _ _ _ _ _ _ _ _ _ _ _ _ _ _ _ _ _ _ _ _ _ _ _ _ _ _ _ _ _ _ _ _ _ _ _ => L.length - (intOf s9).toNat)
  case atStart => exact ⟨0, by omega, by simp [opens], rfl, Below.refl _ _⟩
  case round =>
    obtain ⟨k, hk, rfl, rfl, hb⟩ := hrel
    have hop := opens_le (L.take k)
    rw [List.length_take] at hop
    have hop' : opens (L.take k) ≤ 1000 := by omega
    clear hop
    by_cases hlt : k < L.length
    · obtain ⟨b1, rfl, l1, q1⟩ := HA.out (by omega)
      obtain ⟨r, hr⟩ : ∃ r, L[k]? = some r := ⟨_, List.getElem?_eq_getElem hlt⟩
      obtain ⟨p0, p1, p2, p3, p4⟩ := reqs_at q1 hb l1 hr
      have hid := (HFine.out.1 k r hr).1
      have hget := Lib.hid (getR_at HFine.out hr)
      have hon := Lib.hid (opens_next L k r hr)
      have Q1 := Lib.hid q1
      have HR := Lib.hid hr
      have hws : w.heap.size ≤ wr.heap.size := hb.size
      have hilL : ((k : Nat) : Int) < (L.length : Int) := by omega
      have hneq := fun W => neq_rq r.id r.to r.h r.at_ r.op W
      clear q1 hr
      obtain ⟨id, to, h, a, op⟩ := r
      simp only at hid p0 p1 p2 p3 p4 hneq
      subst hid
      go_wp2_with fail
      refine (fGet_E ((k : Int) + 1) ⟨(k : Int) + 1, to, h, a, op⟩ true (HF.out.below hb) hL hget.out).mono ?_
      rintro e w1 ⟨rfl, hb1⟩
      unfold Rq.val
      have hb2 : Below w.heap.size w (w1.alloc (.cells #[.int .i64 ((k : Int) + 1), .int .i64 to, .int .i64 h, .int .i64 a, .bool op] 29)) := bl_alloc (bl_then hb hb1) _
      have D1 : (w1.alloc (.cells #[.int .i64 ((k : Int) + 1), .int .i64 to, .int .i64 h, .int .i64 a, .bool op] 29)).heap[w1.heap.size]? = some _ := kb_new rfl _
      have cD := kb_cell D1
      obtain ⟨p0, p1, p2, p3, p4⟩ := reqs_at Q1.out hb2 l1 HR.out
      simp only at p0 p1 p2 p3 p4
      have hne1 : (((k : Int) + 1) == ((k : Int) + 1)) = true := by simp
      have hne2 : (((k : Int) + 1) != ((k : Int) + 1)) = false := by simp
      go_wp2_with fail
      go_quiet (fail)
      clear cD D1 hne1 hne2
      cases op
      · have hon' := hon.out
        clear p0 p1 p2 p3
        go_wp2_with fail
        go_roundw
        case rel => exact ⟨k + 1, by omega, by rw [hon']; rfl, by go_num, bl_drewN hb2 _⟩
        case measure => simp [intOf]; omega
      · have hon' := hon.out
        go_wp2_with fail
        have hb3 : Below w.heap.size w ((w1.alloc (.cells #[.int .i64 ((k : Int) + 1), .int .i64 to, .int .i64 h, .int .i64 a, .bool true] 29)).drewN nq) := bl_drewN hb2 _
        clear p0 p1 p2 p3 p4 hneq hb hb1 hb2
        go_loopw [12, 60, 61, 62, 63, 64, 65, 66, 67, 68, 69, 70, 71, 72, 73, 74, 75, 76, 77, 78, 79, 80, 81, 82, 83, 84, 85, 86, 87, 88, 89, 90, 91, 92, 93, 94, 95] (fun s12 _ _ _ _ _ _ _ _ _ _ _ _ _ _ _ _ _ _ _ _ _ _ _ _ _ _ _ _ _ _ _ _ _ _ _ _ wr => ∃ j : Nat, j ≤ k ∧ s12 = .int .i64 j ∧ Below w.heap.size w wr) (fun s12 _ _ _ _ _ _ _ _ _ _ _ _ _ _ _ _ _ _ _ _ _ _ _ _ _ _ _ _ _ _ _ _ _ _ _ _ _ => k - (intOf s12).toNat)
        case atStart => exact ⟨0, by omega, rfl, hb3⟩
        case round =>
          obtain ⟨j, hj, rfl, hb⟩ := hrel
          by_cases hjk : j < k
          · obtain ⟨r2, hr2⟩ : ∃ r2, L[j]? = some r2 := ⟨_, List.getElem?_eq_getElem (by omega)⟩
            have huniq : r2.op = true → r2.to = to → r2.h = h → False := fun x y z => by
              have := HFine.out.2 j k r2 _ hr2 HR.out x rfl y z
              omega
            obtain ⟨g0, g1, g2, g3, g4⟩ := reqs_at Q1.out hb l1 hr2
            obtain ⟨p0, p1, p2, p3, p4⟩ := reqs_at Q1.out hb l1 HR.out
            obtain ⟨id2, to2, h2, a2, op2⟩ := r2
            simp only at huniq g0 g1 g2 g3 g4 p0 p1 p2 p3 p4
            have hjl : ((j : Nat) : Int) < (L.length : Int) := by omega
            clear hr2 g0 g3 p0 p3
            cases op2
            · clear huniq
              go_wp2_with fail
              go_quiet (fail)
              go_wp2_with fail
              go_roundw
              case rel => exact ⟨j + 1, by omega, by go_num, bl_drewN hb _⟩
              case measure => simp [intOf]; omega
            · by_cases ht : to2 = to
              · have hh : h2 ≠ h := fun e => huniq rfl ht e
                have e1 : (to2 == to) = true := by simpa using ht
                have e2 : (h2 == h) = false := by simpa using hh
                clear huniq ht hh
                go_wp2_with fail
                go_quiet (fail)
                go_wp2_with fail
                go_roundw
                case rel => exact ⟨j + 1, by omega, by go_num, bl_drewN hb _⟩
                case measure => simp [intOf]; omega
              · have e1 : (to2 == to) = false := by simpa using ht
                clear huniq ht
                go_wp2_with fail
                go_quiet (fail)
                go_wp2_with fail
                go_roundw
                case rel => exact ⟨j + 1, by omega, by go_num, bl_drewN hb _⟩
                case measure => simp [intOf]; omega
          · obtain rfl : j = k := by omega
            go_wp2_with fail
            go_roundw
            case rel => exact ⟨j + 1, by omega, by rw [hon']; rfl, by go_num, hb⟩
            case measure => simp [intOf]; omega
    · obtain rfl : k = L.length := by omega
      rw [List.take_length] at *
      go_wp2_with fail
      obtain ⟨N, hN⟩ := Int.eq_ofNat_of_zero_le (show 0 ≤ n by omega)
      have hop1 := opens_le L
      go_loopw [7, 8, 13, 14, 15, 96, 97, 98, 99, 100, 101, 102, 103, 104, 105, 106, 107, 108, 109, 110, 111, 112, 113, 114, 115, 116, 117, 118, 119, 120, 121, 122, 123, 124, 125, 126, 127, 128, 129, 130, 131, 132, 133, 134, 135, 136, 137, 138, 139, 140, 141, 142] (fun s7 s8 s13 _ _ _ _ _ _ _ _ _ _ _ _ _ _ _ _ _ _ _ _ _ _ _ _ _ _ _ _ _ _ _ _ _ _ _ _ _ _ _ _ _ _ _ _ _ _ _ _ _ wr => ∃ t : Nat, t ≤ N ∧ s13 = .int .i64 t ∧ s8 = .int .i64 (cntTo L t) ∧ s7 = .int .i64 ((opens L : Int) - (cntOp L t : Int)) ∧ Below w.heap.size w wr) (fun _ _ s13 _ _ _ _ _ _ _ _ _ _ _ _ _ _ _ _ _ _ _ _ _ _ _ _ _ _ _ _ _ _ _ _ _ _ _ _ _ _ _ _ _ _ _ _ _ _ _ _ _ _ => N - (intOf s13).toNat)
      case atStart => exact ⟨0, by omega, rfl, by rw [show ((0 : Nat) : Int) = 0 from rfl, cntTo_0 HFine.out]; rfl, by rw [show ((0 : Nat) : Int) = 0 from rfl, cntOp_0 HFine.out]; go_num, hb⟩
      case round =>
        obtain ⟨t, htN, rfl, rfl, rfl, hb⟩ := hrel
        have c1' := cntTo_le L t
        have c2' := cntOp_le L t
        have F1 := Lib.hid (HF.out.below hb)
        by_cases htn : t < N
        · have hlt : ((t : Nat) : Int) < n := by omega
          have n1 := Lib.hid (cntTo_next L t)
          have n2 := Lib.hid (cntOp_next L t (by omega))
          have hf1 : (L.filter (askHas t)).length ≤ 1000 := Nat.le_trans (List.length_filter_le _ _) hL
          have hN' := Lib.hid hN
          clear hN
          go_wp2_with fail
          refine (fCount_E (t : Int) ((L.filter (askHas t)).length : Int) F1.out hL rfl).mono ?_
          rintro e w1 ⟨rfl, k1⟩
          have F2 := Lib.hid (F1.out.below k1)
          have b1 := bl_then hb k1
          clear k1
          obtain ⟨M, hM⟩ : ∃ M, L.filter (askWaits t) = M := ⟨_, rfl⟩
          have hMl : M.length ≤ 1000 := by rw [← hM]; exact Nat.le_trans (List.length_filter_le _ _) hL
          go_wp2_with fail
          refine (fOpen_E (t : Int) (M.map Rq.id) F2.out hL (by rw [hM]; simp [ids, intVs])).mono ?_
          rintro e w2 ⟨v2, rfl, R2, k2⟩
          have F3 := Lib.hid (F2.out.below k2)
          have b2 := bl_then b1 k2
          clear k2
          rw [List.length_map] at R2
          obtain ⟨A2, cap2, rfl, _, q2⟩ := R2
          have Q2 := Lib.hid q2
          have HM := Lib.hid hM
          clear q2 hM
          go_wp2_with fail
          clear hb b1
          go_loopw [15, 113, 114, 115, 116, 117, 118, 119, 120, 121, 122, 123, 124, 125, 126, 127, 128, 129, 130, 131, 132, 133, 134, 135, 136, 137, 138, 139, 140, 141, 142] (fun s15 _ _ _ _ _ _ _ _ _ _ _ _ _ _ _ _ _ _ _ _ _ _ _ _ _ _ _ _ _ _ wr => ∃ i : Nat, i ≤ M.length ∧ s15 = .int .i64 i ∧ Below w2.heap.size w2 wr) (fun s15 _ _ _ _ _ _ _ _ _ _ _ _ _ _ _ _ _ _ _ _ _ _ _ _ _ _ _ _ _ _ _ => M.length - (intOf s15).toNat)
          case atStart => exact ⟨0, by omega, rfl, Below.refl _ _⟩
          case round =>
            obtain ⟨i, hi, rfl, hb⟩ := hrel
            by_cases him : i < M.length
            · obtain ⟨b2', o2, rfl, l2, q2⟩ := Q2.out (by omega)
              obtain ⟨r, hr⟩ : ∃ r, M[i]? = some r := ⟨_, List.getElem?_eq_getElem him⟩
              have hc := (hb.cell (p := ⟨b2', o2 + i, none⟩) (by exact l2)).trans (q2 i (.int .i64 r.id) (by simp [intVs, hr]))
              have hbl : b2' < wr.heap.size := Nat.lt_of_lt_of_le l2 hb.size
              have his := waits_is (t := (t : Int)) (j := i) (r := r) HFine.out (by omega) (by rw [HM.out]; exact hr)
              have F4 := Lib.hid (F3.out.below hb)
              have hil : ((i : Nat) : Int) < (M.length : Int) := by omega
              have hnn : ((1 : Int) != 1) = false := by decide
              cases i with
              | zero =>
                have hd : decide ((0 : Int) < ((0 : Nat) : Int)) = false := by decide
                rw [Nat.add_zero] at hc
                have hr' := Lib.hid hr
                clear hr q2
                generalize r.id = id at *
                go_wp2_with fail
                (refine wp_region_below (by kernel_rfl) (by kernel_rfl) ?_; (repeat (first | go_big_quiet_skip | (go_big_quiet_want; first | (go_big_quiet_op; go_big_quiet_on) | (apply Exists.intro; refine ⟨fun W hW => ?_, ?_⟩; (focus (have hc_r := (hW.cell (by exact hbl)).trans hc; unfold Oper.quietAt; go_simp; first | exact rfl | exact ⟨rfl, rfl⟩ | (go_at_call 7; exact q_same hW (fIs_E _ _ 1 (F4.out.below hW) hL his)))); go_big_quiet_on; simp only [Act.put, List.setIfInBounds_toArray, List.set_cons_succ, List.set_cons_zero])))); refine wpQuiet_nil ?_; intro w1 hb1; have hz1 := hb1.size)
                go_wp2_with fail
                go_roundw
                case rel => exact ⟨0 + 1, by omega, by go_num, bl_then hb hb1⟩
                case measure => simp [intOf]; omega
              | succ j =>
                obtain ⟨r0, hr0⟩ : ∃ r0, M[j]? = some r0 := ⟨_, List.getElem?_eq_getElem (by omega)⟩
                have hc0 := (hb.cell (p := ⟨b2', o2 + j, none⟩) (by exact l2)).trans (q2 j (.int .i64 r0.id) (by simp [intVs, hr0]))
                have hrise := waits_rise (t := (t : Int)) (j := j) (r := r0) (s := r) HFine.out (by rw [HM.out]; exact hr0) (by rw [HM.out]; exact hr)
                have hd : decide ((0 : Int) < ((j + 1 : Nat) : Int)) = true := decide_eq_true (by omega)
                have hle : decide (r.id ≤ r0.id) = false := by simp; omega
                have hw1 : IntKind.i64.wrap (((j + 1 : Nat) : Int) - 1) = (j : Int) := (IntWalk.i64_in _ (by omega)).trans (by omega)
                have hw2 : IntKind.i64.wrap (j : Int) = (j : Int) := IntWalk.i64_in _ (by omega)
                have hw3 : IntKind.i64.wrap ((j : Int) + 1 - 1) = (j : Int) := (IntWalk.i64_in _ (by omega)).trans (by omega)
                have hjl : ((j : Nat) : Int) < (M.length : Int) := by omega
                clear hr q2 hr0 hrise
                generalize r.id = id at *
                generalize r0.id = id0 at *
                go_wp2_with fail
                (refine wp_region_below (by kernel_rfl) (by kernel_rfl) ?_; (repeat (first | go_big_quiet_skip | (go_big_quiet_want; first | (go_big_quiet_op; go_big_quiet_on) | (apply Exists.intro; refine ⟨fun W hW => ?_, ?_⟩; (focus (have hc_r := (hW.cell (by exact hbl)).trans hc; have hc0_r := (hW.cell (by exact hbl)).trans hc0; unfold Oper.quietAt; go_simp; first | exact rfl | exact ⟨rfl, rfl⟩ | (go_at_call 7; exact q_same hW (fIs_E _ _ 1 (F4.out.below hW) hL his)))); go_big_quiet_on; simp only [Act.put, List.setIfInBounds_toArray, List.set_cons_succ, List.set_cons_zero])))); refine wpQuiet_nil ?_; intro w1 hb1; have hz1 := hb1.size)
                go_wp2_with fail
                go_roundw
                case rel => exact ⟨j + 1 + 1, by omega, by go_num, bl_then hb hb1⟩
                case measure => simp [intOf]; omega
            · obtain rfl : i = M.length := by omega
              go_wp2_with fail
              go_roundw
              case rel =>
                have e1 := n1.out
                have e2 := n2.out
                rw [HM.out] at e2
                exact ⟨t + 1, by omega, by go_num, by rw [show ((t + 1 : Nat) : Int) = (t : Int) + 1 by omega, e1]; go_num, by rw [show ((t + 1 : Nat) : Int) = (t : Int) + 1 by omega, e2]; go_num, bl_then b2 hb⟩
              case measure => have := hN'.out; simp [intOf]; omega
        · obtain rfl : t = N := by omega
          have e1 : cntTo L (t : Int) = L.length := by have := cntTo_n HFine.out; rw [hN] at this; exact this
          have e2 : cntOp L (t : Int) = opens L := by have := cntOp_n HFine.out; rw [hN] at this; exact this
          rw [e1, e2] at *
          have e3 : ((opens L : Int) - (opens L : Int)) = 0 := by omega
          rw [e3] at *
          clear e1 e2 e3
          have hN' := Lib.hid hN
          have hge : ¬ ((t : Int) < n) := by omega
          clear hN
          go_wp2_with fail
          go_ret
          exact ⟨rfl, hb⟩
end Go.Proofs.Ytfbgnimkjflffaa
