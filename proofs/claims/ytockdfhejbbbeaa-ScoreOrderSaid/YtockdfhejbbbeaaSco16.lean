/- The walk of ScoreRanks. -/
import Derived.Test.YtockdfhejbbbeaaSco10
import Derived.Test.YtockdfhejbbbeaaSco13
import Derived.Test.YtockdfhejbbbeaaSco14
import Derived.Test.YtockdfhejbbbeaaSco15
namespace Go.Proofs.Ytockdfhejbbbeaa
open Go.RowKit Go.Proofs.Ytockdfhejbbbeaa.Pc Go.Proofs.Ytockdfhejbbbeaa.Sy BigFrame
attribute [local go_sem] run_store_float
set_option linter.unusedSimpArgs false
set_option linter.unusedVariables false

theorem mlist_fit {zs us : List Int} (h : ∀ u ∈ us, u.toNat < 18446744073709551616) : Fit (mlist zs us) := by
  intro m hm
  obtain ⟨i, _, rfl⟩ := List.mem_map.1 hm
  show (us.getD i 0).toNat < _
  by_cases hi : i < us.length
  · rw [List.getD, List.getElem?_eq_getElem hi]; exact h _ (List.getElem_mem hi)
  · rw [List.getD, List.getElem?_eq_none (by omega)]; decide

set_option maxRecDepth 100000 in
set_option maxHeartbeats 4000000 in
theorem ScoreRanks_walk (A1 A2 : Option Addr) (cap1 cap2 : Nat) (zs us : List Int) (w : World) (h1 : KRow .i64 w A1 zs) (h2 : KRow .u64 w A2 us) (hu : ∀ u ∈ us, u.toNat < 18446744073709551616) :
    Calls Try.prog 4 #[.slice A1 zs.length cap1, .slice A2 us.length cap2] w fun e w' => e = .returned (.bool true) ∧ Below w.heap.size w w' := by
  by_cases hlong : 30 < zs.length
  · have hd : (30 : Int) < (zs.length : Int) := by omega
    go_enter Try.func4, Try.ntmps4
    go_wp2_with fail
    refine (awake_any _).mono ?_
    rintro e w1 ⟨rfl, b1⟩
    go_wp2_with fail
    go_ret
    exact ⟨rfl, b1⟩
  · have hd : ¬ (30 : Int) < (zs.length : Int) := by omega
    have H1 := Lib.hid h1
    have H2 := Lib.hid h2
    have hF := mlist_fit (zs := zs) hu
    have HF := Lib.hid hF
    clear h1 h2 hu hF
    go_enter Try.func4, Try.ntmps4
    go_wp2_with fail
    refine (Merits_any A1 A2 cap1 cap2 zs us _ H1.out H2.out (by omega)).mono ?_
    rintro e w1 ⟨v1, rfl, o1, b1⟩
    have O1 := Lib.hid (MRow.of_own o1)
    clear o1
    go_wp2_with fail
    refine (Merits_any A1 A2 cap1 cap2 zs us _ (H1.out.below b1) (H2.out.below b1) (by omega)).mono ?_
    rintro e w2 ⟨v2, rfl, o2, b2⟩
    have P1 := Lib.hid (O1.out.below b2)
    have P2 := Lib.hid (MRow.of_own o2)
    clear o2 O1
    have HL := Lib.hid (mlist_len zs us)
    generalize mlist zs us = ms at *
    have hl30 : Hid (ms.length ≤ 30) := Lib.hid (by have := HL.out; omega)
    go_wp2_with fail
    refine (Best_any v1 ms _ P1.out HF.out hl30.out).mono ?_
    rintro e w3 ⟨r, rfl, hr, b3⟩
    have Q1 := Lib.hid (P1.out.below b3)
    have Q2 := Lib.hid (P2.out.below b3)
    go_wp2_with fail
    refine (rBest_any v2 ms _ Q2.out HF.out (by have := hl30.out; omega)).mono ?_
    rintro e w4 ⟨rfl, b4⟩
    have hrb := best_unique HF.out hr (bst_out HF.out)
    subst hrb
    have R1 := Lib.hid (Q1.out.below b4)
    have R2 := Lib.hid (Q2.out.below b4)
    have hbb : (bst ms ms.length != bst ms ms.length) = false := by simp
    clear hr P1 P2 Q1 Q2
    generalize bst ms ms.length = bb at *
    go_wp2_with fail
    refine (Rank_any v1 ms _ R1.out HF.out hl30.out).mono ?_
    rintro e w5 ⟨out1, M1, rfl, m1, m2, m3, b5⟩
    have S2 := Lib.hid (R2.out.below b5)
    have S1 := Lib.hid (R1.out.below b5)
    have N1 := Lib.hid m3
    have N2 := Lib.hid (And.intro m1 m2)
    clear m1 m2 m3 R1 R2
    go_wp2_with fail
    refine (rRank_any v2 ms _ S2.out HF.out hl30.out).mono ?_
    rintro e w6 ⟨out2, M2, rfl, m1, m2, m3, b6⟩
    have hMM : M2 = M1 := srt_unique (ltM_strict HF.out) (m1.trans N2.out.1.symm) m2 N2.out.2
    subst hMM
    have hlM : M2.length = ms.length := by rw [m1.length_eq, List.length_range]
    have T1 := Lib.hid (S1.out.below b6)
    have T2 := Lib.hid (S2.out.below b6)
    have U1 := Lib.hid (N1.out.below b6)
    have U2 := Lib.hid m3
    have HLM := Lib.hid hlM
    clear m1 m2 m3 N1 N2 S1 S2 hlM
    go_wp2_with fail
    refine (SameIvs_any (M := M2) (N := M2) (HLM.out ▸ U1.out) (HLM.out ▸ U2.out) (by have := HLM.out; have := hl30.out; omega) (by have := HLM.out; have := hl30.out; omega)).mono ?_
    rintro e w7 ⟨rfl, b7⟩
    have hbe : (M2 == M2) = true := by simp
    rw [hbe]
    have V1 := Lib.hid (T1.out.below b7)
    have V2 := Lib.hid (T2.out.below b7)
    clear hbe T1 T2 U1 U2
    go_wp2_with fail
    refine (SameMerits_any v1 v2 ms _ V1.out V2.out (by have := hl30.out; omega)).mono ?_
    rintro e w8 ⟨rfl, b8⟩
    have W1 := Lib.hid (V1.out.below b8)
    have W2 := Lib.hid (V2.out.below b8)
    have BB : Below w.heap.size w w8 := by (repeat (with_reducible (first | exact Below.refl _ _ | assumption | refine bl_alloc ?_ _ | refine bl_drew ?_ | refine bl_drewN ?_ _ | (refine bl_set ?_ ?_ _; (focus (first | (simp; done) | (simp; omega) | omega))) | refine bl_then ?_ (by assumption))))
    clear V1 V2 b1 b2 b3 b4 b5 b6 b7 b8
    obtain ⟨A5, c5, rfl, r5⟩ := W1.out
    obtain ⟨A6, c6, rfl, r6⟩ := W2.out
    have HR5 := Lib.hid r5
    have HR6 := Lib.hid r6
    obtain ⟨n, hn⟩ : ∃ n, ms.length = n := ⟨_, rfl⟩
    have HN := Lib.hid hn
    have hn30 : n ≤ 30 := by have := hl30.out; omega
    rw [hn]
    clear r5 r6 hn W1 W2 HLM HL hl30
    go_wp2_with fail
    go_loopw [7, 37, 38, 39, 40, 41, 42, 43, 44, 45, 46, 47, 48, 49, 50, 51, 52, 53, 54, 55, 56, 57, 58, 59, 60, 61, 62, 63, 64, 65, 66, 67, 68, 69, 70, 71, 72, 73, 74, 75, 76, 77, 78, 79, 80, 81, 82, 83, 84, 85, 86] (fun s7 _ _ _ _ _ _ _ _ _ _ _ _ _ _ _ _ _ _ _ _ _ _ _ _ _ _ _ _ _ _ _ _ _ _ _ _ _ _ _ _ _ _ _ _ _ _ _ _ _ _ wr => ∃ d : Nat, s7 = .int .i64 ((d : Int) + 1) ∧ d ≤ 31 ∧ Below w.heap.size w wr ∧ Below w8.heap.size w8 wr) (fun s7 _ _ _ _ _ _ _ _ _ _ _ _ _ _ _ _ _ _ _ _ _ _ _ _ _ _ _ _ _ _ _ _ _ _ _ _ _ _ _ _ _ _ _ _ _ _ _ _ _ _ _ => 50 - (intOf s7).toNat)
    case atStart => exact ⟨0, rfl, by omega, BB, Below.refl _ _⟩
    case round =>
      obtain ⟨d, rfl, hd31, hnx, hn8⟩ := hrel
      by_cases hlt : d + 1 < n
      · obtain ⟨b5, off5, rfl, hb5, hc5⟩ := HR5.out (by have := HN.out; omega)
        obtain ⟨b6, off6, rfl, hb6, hc6⟩ := HR6.out (by have := HN.out; omega)
        obtain ⟨x1, x2⟩ := hc5 d _ (mrAt_some (by have := HN.out; omega))
        obtain ⟨x3, x4⟩ := hc5 (d + 1) _ (mrAt_some (by have := HN.out; omega))
        obtain ⟨y1, y2⟩ := hc6 d _ (mrAt_some (by have := HN.out; omega))
        obtain ⟨y3, y4⟩ := hc6 (d + 1) _ (mrAt_some (by have := HN.out; omega))
        have a1 := (hn8.cell (by exact hb5)).trans x1
        have a2 := (hn8.cell (by exact hb5)).trans x2
        have a3 := (hn8.cell (by exact hb5)).trans x3
        have a4 := (hn8.cell (by exact hb5)).trans x4
        have e1 := (hn8.cell (by exact hb6)).trans y1
        have e2 := (hn8.cell (by exact hb6)).trans y2
        have e3 := (hn8.cell (by exact hb6)).trans y3
        have e4 := (hn8.cell (by exact hb6)).trans y4
        have k5 : b5 < wr.heap.size := Nat.lt_of_lt_of_le hb5 hn8.size
        have k6 : b6 < wr.heap.size := Nat.lt_of_lt_of_le hb6 hn8.size
        have p1 := HF.out.at d
        have p2 := HF.out.at (d + 1)
        have G1 := Lib.hid (fun W => Better_any (mrAt ms d).s (mrAt ms d).p (mrAt ms (d + 1)).s (mrAt ms (d + 1)).p W p1 p2)
        have G2 := Lib.hid (fun W => Better_any (mrAt ms (d + 1)).s (mrAt ms (d + 1)).p (mrAt ms d).s (mrAt ms d).p W p2 p1)
        have G3 := Lib.hid (fun W => rBetter_any (mrAt ms d).s (mrAt ms d).p (mrAt ms (d + 1)).s (mrAt ms (d + 1)).p W p1 p2)
        have G4 := Lib.hid (fun W => rBetter_any (mrAt ms (d + 1)).s (mrAt ms (d + 1)).p (mrAt ms d).s (mrAt ms d).p W p2 p1)
        generalize betM (mrAt ms d).s (mrAt ms d).p (mrAt ms (d + 1)).s (mrAt ms (d + 1)).p = t1 at *
        generalize betM (mrAt ms (d + 1)).s (mrAt ms (d + 1)).p (mrAt ms d).s (mrAt ms d).p = t2 at *
        have f1 : (t1 != t1) = false := by simp
        have f2 : (t2 != t2) = false := by simp
        generalize mrAt ms d = x at *
        generalize mrAt ms (d + 1) = y at *
        have r1 : IntKind.i64.wrap (d : Int) = (d : Int) := by rw [IntKind.wrap_i64]; omega
        have r3 : (0 : Int) ≤ (d : Int) + 1 := by omega
        have r4 : ((d : Int) + 1).toNat = d + 1 := by omega
        have r5 : (d : Int) + 1 < (n : Int) := by omega
        have r6 : (d : Int) < (n : Int) := by omega
        clear x1 x2 x3 x4 y1 y2 y3 y4 hc5 hc6 HR5 HR6 p1 p2
        go_wp2_with fail
        refine wp_region_held_drew (S := (fun W : World => W.cell? ⟨b5, off5 + d * 2, none⟩ = some (.int .i64 x.s) ∧ W.cell? ⟨b5, off5 + d * 2 + 1, none⟩ = some (.float .f64 x.p) ∧ W.cell? ⟨b5, off5 + (d + 1) * 2, none⟩ = some (.int .i64 y.s) ∧ W.cell? ⟨b5, off5 + (d + 1) * 2 + 1, none⟩ = some (.float .f64 y.p) ∧ W.cell? ⟨b6, off6 + d * 2, none⟩ = some (.int .i64 x.s) ∧ W.cell? ⟨b6, off6 + d * 2 + 1, none⟩ = some (.float .f64 x.p) ∧ W.cell? ⟨b6, off6 + (d + 1) * 2, none⟩ = some (.int .i64 y.s) ∧ W.cell? ⟨b6, off6 + (d + 1) * 2 + 1, none⟩ = some (.float .f64 y.p))) (by kernel_rfl) ⟨a1, a2, a3, a4, e1, e2, e3, e4⟩ (fun hHeld => ?_)
        refine wpAnyH_take (i := 0) (oi := { dst := some 43, op := _, type := _, pos := _, after := _, guard := _ }) (v := ?_) rfl (by kernel_rfl) (by kernel_rfl) (by kernel_rfl) (fun _ _ _ h => h) (Or.inl ⟨by rfl, ?_⟩) hHeld ?_
        rotate_left
        · (intro w hSw; (try dsimp only at hSw); go_simp); all_goals with_reducible rfl
        try simp only [Act.put, List.setIfInBounds_toArray, List.set_cons_zero, List.set_cons_succ]
        refine wpAnyH_take (i := 1) (oi := { dst := some 44, op := _, type := _, pos := _, after := _, guard := _ }) (v := ?_) rfl (by kernel_rfl) (by kernel_rfl) (by kernel_rfl) (fun _ _ _ h => h) (Or.inl ⟨by rfl, ?_⟩) hHeld ?_
        rotate_left
        · (intro w hSw; (try dsimp only at hSw); go_simp); all_goals with_reducible rfl
        try simp only [Act.put, List.setIfInBounds_toArray, List.set_cons_zero, List.set_cons_succ]
        refine wpAnyH_take (i := 2) (oi := { dst := some 45, op := _, type := _, pos := _, after := _, guard := _ }) (v := ?_) rfl (by kernel_rfl) (by kernel_rfl) (by kernel_rfl) (fun _ _ _ h => h) (Or.inl ⟨by rfl, ?_⟩) hHeld ?_
        rotate_left
        · (intro w hSw; (try dsimp only at hSw); go_simp); all_goals with_reducible rfl
        try simp only [Act.put, List.setIfInBounds_toArray, List.set_cons_zero, List.set_cons_succ]
        refine wpAnyH_take (i := 3) (oi := { dst := some 46, op := _, type := _, pos := _, after := _, guard := _ }) (v := ?_) rfl (by kernel_rfl) (by kernel_rfl) (by kernel_rfl) (fun _ _ _ h => h) (Or.inl ⟨by rfl, ?_⟩) hHeld ?_
        rotate_left
        · (intro w hSw; (try dsimp only at hSw); go_simp); all_goals with_reducible rfl
        try simp only [Act.put, List.setIfInBounds_toArray, List.set_cons_zero, List.set_cons_succ]
        refine wpAnyH_take (i := 4) (oi := { dst := some 47, op := _, type := _, pos := _, after := _, guard := _ }) (v := ?_) rfl (by kernel_rfl) (by kernel_rfl) (by kernel_rfl) (fun _ _ _ h => h) (Or.inl ⟨by rfl, ?_⟩) hHeld ?_
        rotate_left
        · (intro w hSw; (try dsimp only at hSw); go_simp); all_goals with_reducible rfl
        try simp only [Act.put, List.setIfInBounds_toArray, List.set_cons_zero, List.set_cons_succ]
        refine wpAnyH_take (i := 5) (oi := { dst := some 48, op := _, type := _, pos := _, after := _, guard := _ }) (v := ?_) rfl (by kernel_rfl) (by kernel_rfl) (by kernel_rfl) (fun _ _ _ h => h) (Or.inl ⟨by rfl, ?_⟩) hHeld ?_
        rotate_left
        · (intro w hSw; (try dsimp only at hSw); go_simp); all_goals with_reducible rfl
        try simp only [Act.put, List.setIfInBounds_toArray, List.set_cons_zero, List.set_cons_succ]
        refine wpAnyH_take (i := 6) (oi := { dst := some 49, op := _, type := _, pos := _, after := _, guard := _ }) (v := ?_) rfl (by kernel_rfl) (by kernel_rfl) (by kernel_rfl) (fun _ _ _ h => h) (Or.inl ⟨by rfl, ?_⟩) hHeld ?_
        rotate_left
        · (intro w hSw; (try dsimp only at hSw); go_simp); all_goals with_reducible rfl
        try simp only [Act.put, List.setIfInBounds_toArray, List.set_cons_zero, List.set_cons_succ]
        refine wpAnyH_take (i := 7) (oi := { dst := some 50, op := _, type := _, pos := _, after := _, guard := _ }) (v := ?_) rfl (by kernel_rfl) (by kernel_rfl) (by kernel_rfl) (fun _ _ _ h => h) (Or.inl ⟨by rfl, ?_⟩) hHeld ?_
        rotate_left
        · (intro w hSw; (try dsimp only at hSw); go_simp); all_goals with_reducible rfl
        try simp only [Act.put, List.setIfInBounds_toArray, List.set_cons_zero, List.set_cons_succ]
        refine wpAnyH_take (i := 8) (oi := { dst := some 51, op := _, type := _, pos := _, after := _, guard := _ }) (v := ?_) rfl (by kernel_rfl) (by kernel_rfl) (by kernel_rfl) (fun _ _ _ h => h) (Or.inl ⟨by rfl, ?_⟩) hHeld ?_
        rotate_left
        · (intro w hSw; (try dsimp only at hSw); go_simp); all_goals with_reducible rfl
        try simp only [Act.put, List.setIfInBounds_toArray, List.set_cons_zero, List.set_cons_succ]
        refine wpAnyH_take (i := 10) (oi := { dst := some 53, op := _, type := _, pos := _, after := _, guard := _ }) (v := ?_) rfl (by kernel_rfl) (by kernel_rfl) (by kernel_rfl) (fun _ _ _ h => h) (Or.inl ⟨by rfl, ?_⟩) hHeld ?_
        rotate_left
        · (intro w hSw; (try dsimp only at hSw); go_simp); all_goals with_reducible rfl
        try simp only [Act.put, List.setIfInBounds_toArray, List.set_cons_zero, List.set_cons_succ]
        refine wpAnyH_take (i := 11) (oi := { dst := some 54, op := _, type := _, pos := _, after := _, guard := _ }) (v := ?_) rfl (by kernel_rfl) (by kernel_rfl) (by kernel_rfl) (fun _ _ _ h => h) (Or.inl ⟨by rfl, ?_⟩) hHeld ?_
        rotate_left
        · (intro w hSw; (try dsimp only at hSw); go_simp); all_goals with_reducible rfl
        try simp only [Act.put, List.setIfInBounds_toArray, List.set_cons_zero, List.set_cons_succ]
        refine wpAnyH_take (i := 12) (oi := { dst := some 55, op := _, type := _, pos := _, after := _, guard := _ }) (v := ?_) rfl (by kernel_rfl) (by kernel_rfl) (by kernel_rfl) (fun _ _ _ h => h) (Or.inl ⟨by rfl, ?_⟩) hHeld ?_
        rotate_left
        · (intro w hSw; (try dsimp only at hSw); go_simp); all_goals with_reducible rfl
        try simp only [Act.put, List.setIfInBounds_toArray, List.set_cons_zero, List.set_cons_succ]
        refine wpAnyH_take (i := 13) (oi := { dst := some 56, op := _, type := _, pos := _, after := _, guard := _ }) (v := ?_) rfl (by kernel_rfl) (by kernel_rfl) (by kernel_rfl) (fun _ _ _ h => h) (Or.inl ⟨by rfl, ?_⟩) hHeld ?_
        rotate_left
        · (intro w hSw; (try dsimp only at hSw); go_simp); all_goals with_reducible rfl
        try simp only [Act.put, List.setIfInBounds_toArray, List.set_cons_zero, List.set_cons_succ]
        refine wpAnyH_take (i := 14) (oi := { dst := some 57, op := _, type := _, pos := _, after := _, guard := _ }) (v := ?_) rfl (by kernel_rfl) (by kernel_rfl) (by kernel_rfl) (fun _ _ _ h => h) (Or.inl ⟨by rfl, ?_⟩) hHeld ?_
        rotate_left
        · (intro w hSw; (try dsimp only at hSw); go_simp); all_goals with_reducible rfl
        try simp only [Act.put, List.setIfInBounds_toArray, List.set_cons_zero, List.set_cons_succ]
        refine wpAnyH_take (i := 15) (oi := { dst := some 58, op := _, type := _, pos := _, after := _, guard := _ }) (v := ?_) rfl (by kernel_rfl) (by kernel_rfl) (by kernel_rfl) (fun _ _ _ h => h) (Or.inl ⟨by rfl, ?_⟩) hHeld ?_
        rotate_left
        · (intro w hSw; (try dsimp only at hSw); go_simp); all_goals with_reducible rfl
        try simp only [Act.put, List.setIfInBounds_toArray, List.set_cons_zero, List.set_cons_succ]
        refine wpAnyH_take (i := 16) (oi := { dst := some 59, op := _, type := _, pos := _, after := _, guard := _ }) (v := ?_) rfl (by kernel_rfl) (by kernel_rfl) (by kernel_rfl) (fun _ _ _ h => h) (Or.inl ⟨by rfl, ?_⟩) hHeld ?_
        rotate_left
        · (intro w hSw; (try dsimp only at hSw); go_simp); all_goals with_reducible rfl
        try simp only [Act.put, List.setIfInBounds_toArray, List.set_cons_zero, List.set_cons_succ]
        refine wpAnyH_take (i := 17) (oi := { dst := some 60, op := _, type := _, pos := _, after := _, guard := _ }) (v := ?_) rfl (by kernel_rfl) (by kernel_rfl) (by kernel_rfl) (fun _ _ _ h => h) (Or.inl ⟨by rfl, ?_⟩) hHeld ?_
        rotate_left
        · (intro w hSw; (try dsimp only at hSw); go_simp); all_goals with_reducible rfl
        try simp only [Act.put, List.setIfInBounds_toArray, List.set_cons_zero, List.set_cons_succ]
        refine wpAnyH_take (i := 18) (oi := { dst := some 61, op := _, type := _, pos := _, after := _, guard := _ }) (v := ?_) rfl (by kernel_rfl) (by kernel_rfl) (by kernel_rfl) (fun _ _ _ h => h) (Or.inl ⟨by rfl, ?_⟩) hHeld ?_
        rotate_left
        · (intro w hSw; (try dsimp only at hSw); go_simp); all_goals with_reducible rfl
        try simp only [Act.put, List.setIfInBounds_toArray, List.set_cons_zero, List.set_cons_succ]
        refine wpAnyH_ready (rs := [9]) (by kernel_rfl) (by simp) (AllReadyH.cons (o := _) rfl (fun K hK => ?_) AllReadyH.nil)
        go_simp
        refine (G1.out _).mono ?_
        rintro e wq0 ⟨rfl, hq0⟩
        have a1_0 : wq0.cell? ⟨b5, off5 + d * 2, none⟩ = some (.int .i64 x.s) := (hq0.cell (by exact k5)).trans a1
        have a2_0 : wq0.cell? ⟨b5, off5 + d * 2 + 1, none⟩ = some (.float .f64 x.p) := (hq0.cell (by exact k5)).trans a2
        have a3_0 : wq0.cell? ⟨b5, off5 + (d + 1) * 2, none⟩ = some (.int .i64 y.s) := (hq0.cell (by exact k5)).trans a3
        have a4_0 : wq0.cell? ⟨b5, off5 + (d + 1) * 2 + 1, none⟩ = some (.float .f64 y.p) := (hq0.cell (by exact k5)).trans a4
        have e1_0 : wq0.cell? ⟨b6, off6 + d * 2, none⟩ = some (.int .i64 x.s) := (hq0.cell (by exact k6)).trans e1
        have e2_0 : wq0.cell? ⟨b6, off6 + d * 2 + 1, none⟩ = some (.float .f64 x.p) := (hq0.cell (by exact k6)).trans e2
        have e3_0 : wq0.cell? ⟨b6, off6 + (d + 1) * 2, none⟩ = some (.int .i64 y.s) := (hq0.cell (by exact k6)).trans e3
        have e4_0 : wq0.cell? ⟨b6, off6 + (d + 1) * 2 + 1, none⟩ = some (.float .f64 y.p) := (hq0.cell (by exact k6)).trans e4
        have k5_0 : b5 < wq0.heap.size := Nat.lt_of_lt_of_le k5 hq0.size
        have k6_0 : b6 < wq0.heap.size := Nat.lt_of_lt_of_le k6 hq0.size
        refine hK.out _ _ ⟨a1_0, a2_0, a3_0, a4_0, e1_0, e2_0, e3_0, e4_0⟩ (fun hHeld => ?_)
        clear hK K
        refine wpAnyH_ready (rs := [19]) (by kernel_rfl) (by simp) (AllReadyH.cons (o := _) rfl (fun K hK => ?_) AllReadyH.nil)
        go_simp
        refine (G3.out _).mono ?_
        rintro e wq1 ⟨rfl, hq1⟩
        have a1_1 : wq1.cell? ⟨b5, off5 + d * 2, none⟩ = some (.int .i64 x.s) := (hq1.cell (by exact k5_0)).trans a1_0
        have a2_1 : wq1.cell? ⟨b5, off5 + d * 2 + 1, none⟩ = some (.float .f64 x.p) := (hq1.cell (by exact k5_0)).trans a2_0
        have a3_1 : wq1.cell? ⟨b5, off5 + (d + 1) * 2, none⟩ = some (.int .i64 y.s) := (hq1.cell (by exact k5_0)).trans a3_0
        have a4_1 : wq1.cell? ⟨b5, off5 + (d + 1) * 2 + 1, none⟩ = some (.float .f64 y.p) := (hq1.cell (by exact k5_0)).trans a4_0
        have e1_1 : wq1.cell? ⟨b6, off6 + d * 2, none⟩ = some (.int .i64 x.s) := (hq1.cell (by exact k6_0)).trans e1_0
        have e2_1 : wq1.cell? ⟨b6, off6 + d * 2 + 1, none⟩ = some (.float .f64 x.p) := (hq1.cell (by exact k6_0)).trans e2_0
        have e3_1 : wq1.cell? ⟨b6, off6 + (d + 1) * 2, none⟩ = some (.int .i64 y.s) := (hq1.cell (by exact k6_0)).trans e3_0
        have e4_1 : wq1.cell? ⟨b6, off6 + (d + 1) * 2 + 1, none⟩ = some (.float .f64 y.p) := (hq1.cell (by exact k6_0)).trans e4_0
        have k5_1 : b5 < wq1.heap.size := Nat.lt_of_lt_of_le k5_0 hq1.size
        have k6_1 : b6 < wq1.heap.size := Nat.lt_of_lt_of_le k6_0 hq1.size
        refine hK.out _ _ ⟨a1_1, a2_1, a3_1, a4_1, e1_1, e2_1, e3_1, e4_1⟩ (fun hHeld => ?_)
        clear hK K
        refine wpAnyH_take (i := 20) (oi := { dst := some 63, op := _, type := _, pos := _, after := _, guard := _ }) (v := ?_) rfl (by kernel_rfl) (by kernel_rfl) (by kernel_rfl) (fun _ _ _ h => h) (Or.inl ⟨by rfl, ?_⟩) hHeld ?_
        rotate_left
        · (intro w hSw; (try dsimp only at hSw); go_simp); all_goals with_reducible rfl
        try simp only [Act.put, List.setIfInBounds_toArray, List.set_cons_zero, List.set_cons_succ]
        refine wpAnyH_take (i := 21) (oi := { dst := some 64, op := _, type := _, pos := _, after := _, guard := _ }) (v := ?_) rfl (by kernel_rfl) (by kernel_rfl) (by kernel_rfl) (fun _ _ _ h => h) (Or.inl ⟨by rfl, ?_⟩) hHeld ?_
        rotate_left
        · (intro w hSw; (try dsimp only at hSw); go_simp); all_goals with_reducible rfl
        try simp only [Act.put, List.setIfInBounds_toArray, List.set_cons_zero, List.set_cons_succ]
        refine wpAnyH_take (i := 22) (oi := { dst := some 65, op := _, type := _, pos := _, after := _, guard := _ }) (v := ?_) rfl (by kernel_rfl) (by kernel_rfl) (by kernel_rfl) (fun _ _ _ h => h) (Or.inl ⟨by rfl, ?_⟩) hHeld ?_
        rotate_left
        · (intro w hSw; (try dsimp only at hSw); go_simp); all_goals with_reducible rfl
        try simp only [Act.put, List.setIfInBounds_toArray, List.set_cons_zero, List.set_cons_succ]
        refine wpAnyH_take (i := 23) (oi := { dst := some 66, op := _, type := _, pos := _, after := _, guard := _ }) (v := ?_) rfl (by kernel_rfl) (by kernel_rfl) (by kernel_rfl) (fun _ _ _ h => h) (Or.inl ⟨by rfl, ?_⟩) hHeld ?_
        rotate_left
        · (intro w hSw; (try dsimp only at hSw); go_simp); all_goals with_reducible rfl
        try simp only [Act.put, List.setIfInBounds_toArray, List.set_cons_zero, List.set_cons_succ]
        refine wpAnyH_take (i := 24) (oi := { dst := some 67, op := _, type := _, pos := _, after := _, guard := _ }) (v := ?_) rfl (by kernel_rfl) (by kernel_rfl) (by kernel_rfl) (fun _ _ _ h => h) (Or.inl ⟨by rfl, ?_⟩) hHeld ?_
        rotate_left
        · (intro w hSw; (try dsimp only at hSw); go_simp); all_goals with_reducible rfl
        try simp only [Act.put, List.setIfInBounds_toArray, List.set_cons_zero, List.set_cons_succ]
        refine wpAnyH_take (i := 25) (oi := { dst := some 68, op := _, type := _, pos := _, after := _, guard := _ }) (v := ?_) rfl (by kernel_rfl) (by kernel_rfl) (by kernel_rfl) (fun _ _ _ h => h) (Or.inl ⟨by rfl, ?_⟩) hHeld ?_
        rotate_left
        · (intro w hSw; (try dsimp only at hSw); go_simp); all_goals with_reducible rfl
        try simp only [Act.put, List.setIfInBounds_toArray, List.set_cons_zero, List.set_cons_succ]
        refine wpAnyH_take (i := 26) (oi := { dst := some 69, op := _, type := _, pos := _, after := _, guard := _ }) (v := ?_) rfl (by kernel_rfl) (by kernel_rfl) (by kernel_rfl) (fun _ _ _ h => h) (Or.inl ⟨by rfl, ?_⟩) hHeld ?_
        rotate_left
        · (intro w hSw; (try dsimp only at hSw); go_simp); all_goals with_reducible rfl
        try simp only [Act.put, List.setIfInBounds_toArray, List.set_cons_zero, List.set_cons_succ]
        refine wpAnyH_take (i := 27) (oi := { dst := some 70, op := _, type := _, pos := _, after := _, guard := _ }) (v := ?_) rfl (by kernel_rfl) (by kernel_rfl) (by kernel_rfl) (fun _ _ _ h => h) (Or.inl ⟨by rfl, ?_⟩) hHeld ?_
        rotate_left
        · (intro w hSw; (try dsimp only at hSw); go_simp); all_goals with_reducible rfl
        try simp only [Act.put, List.setIfInBounds_toArray, List.set_cons_zero, List.set_cons_succ]
        refine wpAnyH_take (i := 28) (oi := { dst := some 71, op := _, type := _, pos := _, after := _, guard := _ }) (v := ?_) rfl (by kernel_rfl) (by kernel_rfl) (by kernel_rfl) (fun _ _ _ h => h) (Or.inl ⟨by rfl, ?_⟩) hHeld ?_
        rotate_left
        · (intro w hSw; (try dsimp only at hSw); go_simp); all_goals with_reducible rfl
        try simp only [Act.put, List.setIfInBounds_toArray, List.set_cons_zero, List.set_cons_succ]
        refine wpAnyH_take (i := 29) (oi := { dst := some 72, op := _, type := _, pos := _, after := _, guard := _ }) (v := ?_) rfl (by kernel_rfl) (by kernel_rfl) (by kernel_rfl) (fun _ _ _ h => h) (Or.inl ⟨by rfl, ?_⟩) hHeld ?_
        rotate_left
        · (intro w hSw; (try dsimp only at hSw); go_simp); all_goals with_reducible rfl
        try simp only [Act.put, List.setIfInBounds_toArray, List.set_cons_zero, List.set_cons_succ]
        refine wpAnyH_take (i := 30) (oi := { dst := some 73, op := _, type := _, pos := _, after := _, guard := _ }) (v := ?_) rfl (by kernel_rfl) (by kernel_rfl) (by kernel_rfl) (fun _ _ _ h => h) (Or.inl ⟨by rfl, ?_⟩) hHeld ?_
        rotate_left
        · (intro w hSw; (try dsimp only at hSw); go_simp); all_goals with_reducible rfl
        try simp only [Act.put, List.setIfInBounds_toArray, List.set_cons_zero, List.set_cons_succ]
        refine wpAnyH_take (i := 32) (oi := { dst := some 75, op := _, type := _, pos := _, after := _, guard := _ }) (v := ?_) rfl (by kernel_rfl) (by kernel_rfl) (by kernel_rfl) (fun _ _ _ h => h) (Or.inl ⟨by rfl, ?_⟩) hHeld ?_
        rotate_left
        · (intro w hSw; (try dsimp only at hSw); go_simp); all_goals with_reducible rfl
        try simp only [Act.put, List.setIfInBounds_toArray, List.set_cons_zero, List.set_cons_succ]
        refine wpAnyH_take (i := 33) (oi := { dst := some 76, op := _, type := _, pos := _, after := _, guard := _ }) (v := ?_) rfl (by kernel_rfl) (by kernel_rfl) (by kernel_rfl) (fun _ _ _ h => h) (Or.inl ⟨by rfl, ?_⟩) hHeld ?_
        rotate_left
        · (intro w hSw; (try dsimp only at hSw); go_simp); all_goals with_reducible rfl
        try simp only [Act.put, List.setIfInBounds_toArray, List.set_cons_zero, List.set_cons_succ]
        refine wpAnyH_take (i := 34) (oi := { dst := some 77, op := _, type := _, pos := _, after := _, guard := _ }) (v := ?_) rfl (by kernel_rfl) (by kernel_rfl) (by kernel_rfl) (fun _ _ _ h => h) (Or.inl ⟨by rfl, ?_⟩) hHeld ?_
        rotate_left
        · (intro w hSw; (try dsimp only at hSw); go_simp); all_goals with_reducible rfl
        try simp only [Act.put, List.setIfInBounds_toArray, List.set_cons_zero, List.set_cons_succ]
        refine wpAnyH_take (i := 35) (oi := { dst := some 78, op := _, type := _, pos := _, after := _, guard := _ }) (v := ?_) rfl (by kernel_rfl) (by kernel_rfl) (by kernel_rfl) (fun _ _ _ h => h) (Or.inl ⟨by rfl, ?_⟩) hHeld ?_
        rotate_left
        · (intro w hSw; (try dsimp only at hSw); go_simp); all_goals with_reducible rfl
        try simp only [Act.put, List.setIfInBounds_toArray, List.set_cons_zero, List.set_cons_succ]
        refine wpAnyH_take (i := 36) (oi := { dst := some 79, op := _, type := _, pos := _, after := _, guard := _ }) (v := ?_) rfl (by kernel_rfl) (by kernel_rfl) (by kernel_rfl) (fun _ _ _ h => h) (Or.inl ⟨by rfl, ?_⟩) hHeld ?_
        rotate_left
        · (intro w hSw; (try dsimp only at hSw); go_simp); all_goals with_reducible rfl
        try simp only [Act.put, List.setIfInBounds_toArray, List.set_cons_zero, List.set_cons_succ]
        refine wpAnyH_take (i := 37) (oi := { dst := some 80, op := _, type := _, pos := _, after := _, guard := _ }) (v := ?_) rfl (by kernel_rfl) (by kernel_rfl) (by kernel_rfl) (fun _ _ _ h => h) (Or.inl ⟨by rfl, ?_⟩) hHeld ?_
        rotate_left
        · (intro w hSw; (try dsimp only at hSw); go_simp); all_goals with_reducible rfl
        try simp only [Act.put, List.setIfInBounds_toArray, List.set_cons_zero, List.set_cons_succ]
        refine wpAnyH_take (i := 38) (oi := { dst := some 81, op := _, type := _, pos := _, after := _, guard := _ }) (v := ?_) rfl (by kernel_rfl) (by kernel_rfl) (by kernel_rfl) (fun _ _ _ h => h) (Or.inl ⟨by rfl, ?_⟩) hHeld ?_
        rotate_left
        · (intro w hSw; (try dsimp only at hSw); go_simp); all_goals with_reducible rfl
        try simp only [Act.put, List.setIfInBounds_toArray, List.set_cons_zero, List.set_cons_succ]
        refine wpAnyH_take (i := 39) (oi := { dst := some 82, op := _, type := _, pos := _, after := _, guard := _ }) (v := ?_) rfl (by kernel_rfl) (by kernel_rfl) (by kernel_rfl) (fun _ _ _ h => h) (Or.inl ⟨by rfl, ?_⟩) hHeld ?_
        rotate_left
        · (intro w hSw; (try dsimp only at hSw); go_simp); all_goals with_reducible rfl
        try simp only [Act.put, List.setIfInBounds_toArray, List.set_cons_zero, List.set_cons_succ]
        refine wpAnyH_take (i := 40) (oi := { dst := some 83, op := _, type := _, pos := _, after := _, guard := _ }) (v := ?_) rfl (by kernel_rfl) (by kernel_rfl) (by kernel_rfl) (fun _ _ _ h => h) (Or.inl ⟨by rfl, ?_⟩) hHeld ?_
        rotate_left
        · (intro w hSw; (try dsimp only at hSw); go_simp); all_goals with_reducible rfl
        try simp only [Act.put, List.setIfInBounds_toArray, List.set_cons_zero, List.set_cons_succ]
        refine wpAnyH_ready (rs := [31]) (by kernel_rfl) (by simp) (AllReadyH.cons (o := _) rfl (fun K hK => ?_) AllReadyH.nil)
        go_simp
        refine (G2.out _).mono ?_
        rintro e wq2 ⟨rfl, hq2⟩
        have a1_2 : wq2.cell? ⟨b5, off5 + d * 2, none⟩ = some (.int .i64 x.s) := (hq2.cell (by exact k5_1)).trans a1_1
        have a2_2 : wq2.cell? ⟨b5, off5 + d * 2 + 1, none⟩ = some (.float .f64 x.p) := (hq2.cell (by exact k5_1)).trans a2_1
        have a3_2 : wq2.cell? ⟨b5, off5 + (d + 1) * 2, none⟩ = some (.int .i64 y.s) := (hq2.cell (by exact k5_1)).trans a3_1
        have a4_2 : wq2.cell? ⟨b5, off5 + (d + 1) * 2 + 1, none⟩ = some (.float .f64 y.p) := (hq2.cell (by exact k5_1)).trans a4_1
        have e1_2 : wq2.cell? ⟨b6, off6 + d * 2, none⟩ = some (.int .i64 x.s) := (hq2.cell (by exact k6_1)).trans e1_1
        have e2_2 : wq2.cell? ⟨b6, off6 + d * 2 + 1, none⟩ = some (.float .f64 x.p) := (hq2.cell (by exact k6_1)).trans e2_1
        have e3_2 : wq2.cell? ⟨b6, off6 + (d + 1) * 2, none⟩ = some (.int .i64 y.s) := (hq2.cell (by exact k6_1)).trans e3_1
        have e4_2 : wq2.cell? ⟨b6, off6 + (d + 1) * 2 + 1, none⟩ = some (.float .f64 y.p) := (hq2.cell (by exact k6_1)).trans e4_1
        have k5_2 : b5 < wq2.heap.size := Nat.lt_of_lt_of_le k5_1 hq2.size
        have k6_2 : b6 < wq2.heap.size := Nat.lt_of_lt_of_le k6_1 hq2.size
        refine hK.out _ _ ⟨a1_2, a2_2, a3_2, a4_2, e1_2, e2_2, e3_2, e4_2⟩ (fun hHeld => ?_)
        clear hK K
        refine wpAnyH_ready (rs := [41]) (by kernel_rfl) (by simp) (AllReadyH.cons (o := _) rfl (fun K hK => ?_) AllReadyH.nil)
        go_simp
        refine (G4.out _).mono ?_
        rintro e wq3 ⟨rfl, hq3⟩
        have a1_3 : wq3.cell? ⟨b5, off5 + d * 2, none⟩ = some (.int .i64 x.s) := (hq3.cell (by exact k5_2)).trans a1_2
        have a2_3 : wq3.cell? ⟨b5, off5 + d * 2 + 1, none⟩ = some (.float .f64 x.p) := (hq3.cell (by exact k5_2)).trans a2_2
        have a3_3 : wq3.cell? ⟨b5, off5 + (d + 1) * 2, none⟩ = some (.int .i64 y.s) := (hq3.cell (by exact k5_2)).trans a3_2
        have a4_3 : wq3.cell? ⟨b5, off5 + (d + 1) * 2 + 1, none⟩ = some (.float .f64 y.p) := (hq3.cell (by exact k5_2)).trans a4_2
        have e1_3 : wq3.cell? ⟨b6, off6 + d * 2, none⟩ = some (.int .i64 x.s) := (hq3.cell (by exact k6_2)).trans e1_2
        have e2_3 : wq3.cell? ⟨b6, off6 + d * 2 + 1, none⟩ = some (.float .f64 x.p) := (hq3.cell (by exact k6_2)).trans e2_2
        have e3_3 : wq3.cell? ⟨b6, off6 + (d + 1) * 2, none⟩ = some (.int .i64 y.s) := (hq3.cell (by exact k6_2)).trans e3_2
        have e4_3 : wq3.cell? ⟨b6, off6 + (d + 1) * 2 + 1, none⟩ = some (.float .f64 y.p) := (hq3.cell (by exact k6_2)).trans e4_2
        have k5_3 : b5 < wq3.heap.size := Nat.lt_of_lt_of_le k5_2 hq3.size
        have k6_3 : b6 < wq3.heap.size := Nat.lt_of_lt_of_le k6_2 hq3.size
        refine hK.out _ _ ⟨a1_3, a2_3, a3_3, a4_3, e1_3, e2_3, e3_3, e4_3⟩ (fun hHeld => ?_)
        clear hK K
        refine wpAnyH_take (i := 42) (oi := { dst := some 85, op := _, type := _, pos := _, after := _, guard := _ }) (v := ?_) rfl (by kernel_rfl) (by kernel_rfl) (by kernel_rfl) (fun _ _ _ h => h) (Or.inl ⟨by rfl, ?_⟩) hHeld ?_
        rotate_left
        · (intro w hSw; (try dsimp only at hSw); go_simp); all_goals with_reducible rfl
        try simp only [Act.put, List.setIfInBounds_toArray, List.set_cons_zero, List.set_cons_succ]
        refine wpAnyH_take (i := 43) (oi := { dst := some 86, op := _, type := _, pos := _, after := _, guard := _ }) (v := ?_) rfl (by kernel_rfl) (by kernel_rfl) (by kernel_rfl) (fun _ _ _ h => h) (Or.inl ⟨by rfl, ?_⟩) hHeld ?_
        rotate_left
        · (intro w hSw; (try dsimp only at hSw); go_simp); all_goals with_reducible rfl
        try simp only [Act.put, List.setIfInBounds_toArray, List.set_cons_zero, List.set_cons_succ]
        refine wpAnyH_done (by kernel_rfl) ?_ _
        have hb1 : Below wr.heap.size wr wq3 := by (repeat (with_reducible (first | exact Below.refl _ _ | assumption | refine bl_alloc ?_ _ | refine bl_drew ?_ | refine bl_drewN ?_ _ | (refine bl_set ?_ ?_ _; (focus (first | (simp; done) | (simp; omega) | omega))) | refine bl_then ?_ (by assumption))))
        have hnx1 := bl_then hnx hb1
        have hn81 := bl_then hn8 hb1
        go_wp2
        go_roundw
        case rel => exact ⟨d + 1, by go_num, by omega, hnx1, hn81⟩
        case measure => simp [intOf]; omega
      · have hd2 : ¬ (d : Int) + 1 < (n : Int) := by omega
        go_wp2_with (go_at_call 17; (with_reducible refine (awake_any _).mono ?_); rintro e w1 ⟨rfl, hb1⟩; have hz1 := hb1.size)
        go_ret
        exact ⟨rfl, by (repeat (with_reducible (first | exact Below.refl _ _ | assumption | refine bl_alloc ?_ _ | refine bl_drew ?_ | refine bl_drewN ?_ _ | (refine bl_set ?_ ?_ _; (focus (first | (simp; done) | (simp; omega) | omega))) | refine bl_then ?_ (by assumption))))⟩
end Go.Proofs.Ytockdfhejbbbeaa
