/- The walk of ScoreOrder. -/
import Derived.Test.YtockdfhejbbbeaaSco16
namespace Go.Proofs.Ytockdfhejbbbeaa
open Go.RowKit Go.Proofs.Ytockdfhejbbbeaa.Pc Go.Proofs.Ytockdfhejbbbeaa.Sy BigFrame
attribute [local go_sem] run_store_float
set_option linter.unusedSimpArgs false
set_option linter.unusedVariables false

set_option maxRecDepth 100000 in
set_option maxHeartbeats 4000000 in
theorem ScoreOrder_long (A1 A2 : Option Addr) (cap1 cap2 n1 n2 : Nat) (w : World) (hl : 30 < n1) :
    Calls Try.prog 6 #[.slice A1 n1 cap1, .slice A2 n2 cap2] w fun e w' => e = .returned (.bool true) ∧ Below w.heap.size w w' := by
  have hd : (30 : Int) < (n1 : Int) := by omega
  go_enter Try.func6, Try.ntmps6
  go_wp2_with fail
  refine (ScoreKnown_any _).mono ?_
  rintro e w1 ⟨rfl, b1⟩
  go_wp2_with fail
  go_ret
  exact ⟨rfl, b1⟩

/-- A row of bools. -/
def bcs (L : List Bool) : Array Value := (L.map Value.bool).toArray
/-- Who was met among the first k. -/
def metL (M : List Nat) (n k : Nat) : List Bool := (List.range n).map fun j => decide (j ∈ M.take k)
theorem bcs_at (M : List Nat) (n k j : Nat) (hj : j < n) : (bcs (metL M n k))[j]? = some (.bool (decide (j ∈ M.take k))) := by
  simp [bcs, metL, hj]
theorem bcs_set (M : List Nat) (n k j : Nat) (hj : M.getD k 0 = j) (hk : k < M.length) : (bcs (metL M n k)).setIfInBounds j (.bool true) = bcs (metL M n (k + 1)) := by
  have ht : M.take (k + 1) = M.take k ++ [j] := by rw [List.take_add_one, List.getElem?_eq_getElem hk, ← getD_at hk, hj]; rfl
  apply Array.ext_getElem?
  intro i
  rw [Array.getElem?_setIfInBounds]
  have hsz : ∀ k, (bcs (metL M n k)).size = n := fun k => by simp [bcs, metL]
  by_cases hi : i < n
  · rw [bcs_at M n (k + 1) i hi, bcs_at M n k i hi, ht, hsz]
    by_cases e : j = i
    · subst e
      rw [if_pos rfl, if_pos hi]
      simp
    · rw [if_neg e]
      have : (i ∈ M.take k ++ [j]) ↔ i ∈ M.take k := by
        rw [List.mem_append, List.mem_singleton]
        exact ⟨fun h => h.elim id (fun h => absurd h.symm e), .inl⟩
      simp only [this]
  · have h1 : (bcs (metL M n (k + 1)))[i]? = none := Array.getElem?_eq_none (by rw [hsz]; omega)
    have h2 : (bcs (metL M n k))[i]? = none := Array.getElem?_eq_none (by rw [hsz]; omega)
    rw [h1, h2, hsz]
    by_cases e : j = i
    · rw [if_pos e, if_neg (by omega)]
    · rw [if_neg e]
theorem infoB : (Try.prog.info? 4).map (fun i => (i.zero, i.size, i.bytes)) = some (some (.bool false), 1, 1) := by kernel_rfl
theorem make_bools {M : List Nat} (n : Nat) (hn : n ≤ 1000) (W : World) : (Instr.makeSlice 48 (.int .i64 (n : Int)) (.int .i64 (n : Int))).run Try.prog W = .ok (.slice (some ⟨W.heap.size, 0, none⟩) n n) (W.alloc (.cells (bcs (metL M n 0)) 4)) := by
  obtain ⟨i0, hi, hz0, hz1, hz2⟩ := info_parts infoB
  have h := run_makeSlice (P := Try.prog) W 48 4 i0 (.bool false) Try.underlying48 hi hz0 .i64 .i64 (n : Int) (n : Int) (by omega) (Int.le_refl _) (by rw [hz1, Int.toNat_natCast]; omega) (by rw [hz2]; omega) (by omega)
  rw [Int.toNat_natCast, hz1, Nat.mul_one] at h
  have e : madeCells (Value.bool false).cells n = bcs (metL M n 0) := by
    apply Array.toList_inj.1
    show (madeCells #[Value.bool false] n).toList = _
    rw [toList_madeCells_one]
    simp [bcs, metL, List.map_const']
  rw [e] at h
  exact h
theorem perm_nodup {M : List Nat} {n : Nat} (h : M.Perm (List.range n)) : M.Nodup := h.symm.nodup List.nodup_range
theorem fresh_at {M : List Nat} (h : M.Nodup) {k : Nat} (hk : k < M.length) : M.getD k 0 ∉ M.take k := by
  intro hm
  obtain ⟨i, h1, h2, h3⟩ := mem_take hm
  rw [getD_at hk, getD_at h2] at h3
  have := (List.getElem_inj h).1 h3
  omega
theorem not_better {ms : List Mr} (hF : Fit ms) {i j : Nat} (h : ltM ms i j = true) : betM (mrAt ms j).s (mrAt ms j).p (mrAt ms i).s (mrAt ms i).p = false := by
  rw [ltM_iff hF] at h
  unfold betM
  exact decide_eq_false (by rw [cmpM_lt (hF.at j) (hF.at i)]; omega)
theorem better_or {ms : List Mr} (hF : Fit ms) {i j : Nat} (h : ltM ms i j = true) : betM (mrAt ms i).s (mrAt ms i).p (mrAt ms j).s (mrAt ms j).p = true ∨ i < j := by
  rw [ltM_iff hF] at h
  unfold betM
  rw [decide_eq_true_eq, cmpM_lt (hF.at i) (hF.at j)]
  omega

theorem bet_asym {s t : Int} {p q : Nat} (hp : p < 18446744073709551616) (hq : q < 18446744073709551616) (h : betM s p t q = true) : betM t q s p = false := by
  unfold betM at *
  rw [decide_eq_true_eq, cmpM_lt hp hq] at h
  exact decide_eq_false (by rw [cmpM_lt hq hp]; omega)
theorem bet_trans {s t u : Int} {p q r : Nat} (hp : p < 18446744073709551616) (hq : q < 18446744073709551616) (hr : r < 18446744073709551616) (h : betM s p t q = true) (k : betM t q u r = true) : betM s p u r = true := by
  unfold betM at *
  rw [decide_eq_true_eq, cmpM_lt hp hq] at h
  rw [decide_eq_true_eq, cmpM_lt hq hr] at k
  rw [decide_eq_true_eq, cmpM_lt hp hr]
  omega

set_option maxRecDepth 100000 in
set_option maxHeartbeats 8000000 in
theorem ScoreOrder_walk (A1 A2 : Option Addr) (cap1 cap2 : Nat) (zs us : List Int) (w : World) (h1 : KRow .i64 w A1 zs) (h2 : KRow .u64 w A2 us) (hu : ∀ u ∈ us, u.toNat < 18446744073709551616) :
    Calls Try.prog 6 #[.slice A1 zs.length cap1, .slice A2 us.length cap2] w fun e w' => e = .returned (.bool true) ∧ Below w.heap.size w w' := by
  by_cases hlong : 30 < zs.length
  · exact ScoreOrder_long A1 A2 cap1 cap2 _ _ w hlong
  · have hd : ¬ (30 : Int) < (zs.length : Int) := by omega
    have H1 := Lib.hid h1
    have H2 := Lib.hid h2
    have hF := mlist_fit (zs := zs) hu
    have HF := Lib.hid hF
    clear h1 h2 hu hF
    go_enter Try.func6, Try.ntmps6
    go_wp2_with fail
    refine (ScoreKnown_any _).mono ?_
    rintro e w0 ⟨rfl, b0⟩
    go_wp2_with fail
    refine (Merits_any A1 A2 cap1 cap2 zs us _ (H1.out.below b0) (H2.out.below b0) (by omega)).mono ?_
    rintro e w1 ⟨v1, rfl, o1, b1⟩
    have P1 := Lib.hid (MRow.of_own o1)
    clear o1
    have HL := Lib.hid (mlist_len zs us)
    generalize mlist zs us = ms at *
    have hl30 : Hid (ms.length ≤ 30) := Lib.hid (by have := HL.out; omega)
    go_wp2_with fail
    refine (Rank_any v1 ms _ P1.out HF.out hl30.out).mono ?_
    rintro e w2 ⟨out1, M, rfl, m1, m2, m3, b2⟩
    have Q1 := Lib.hid (P1.out.below b2)
    have HR := Lib.hid m3
    have HP := Lib.hid m1
    have HS := Lib.hid m2
    have B2 : Below w.heap.size w w2 := by (repeat (with_reducible (first | exact Below.refl _ _ | assumption | refine bl_alloc ?_ _ | refine bl_drew ?_ | refine bl_drewN ?_ _ | (refine bl_set ?_ ?_ _; (focus (first | (simp; done) | (simp; omega) | omega))) | refine bl_then ?_ (by assumption))))
    obtain ⟨A5, c5, rfl, r5⟩ := id Q1.out
    obtain ⟨A6, c6, rfl, _, r6⟩ := id HR.out
    have HR5 := Lib.hid r5
    have HR6 := Lib.hid r6
    obtain ⟨n, hn⟩ : ∃ n, ms.length = n := ⟨_, rfl⟩
    have HN := Lib.hid hn
    have hn30 : n ≤ 30 := by have := hl30.out; omega
    rw [hn]
    rw [hn] at Q1 HR
    clear r5 r6 hn m1 m2 m3 P1 b0 b1 b2 HL hl30
    have hnn : ((n : Int) != (n : Int)) = false := by simp
    go_upto_region 6 with fail
    go_cut [42] (fun s42 wx => s42 = .bool false ∧ Below w2.heap.size w2 wx)
    case first =>
      by_cases h0 : n = 0
      · have h0d : decide ((0 : Int) < (n : Int)) = false := decide_eq_false (by omega)
        have h0f : decide (0 < n) = false := decide_eq_false (by omega)
        go_wp2_with fail
        (refine wp_region_below (by kernel_rfl) (by kernel_rfl) ?_; (repeat (first | go_big_quiet_skip | (go_big_quiet_want; first | (go_big_quiet_op; go_big_quiet_on) | (apply Exists.intro; refine ⟨fun W hW => ?_, ?_⟩; (focus (unfold Oper.quietAt; go_simp; first | exact rfl | exact ⟨rfl, rfl⟩)); go_big_quiet_on; simp only [Act.put, List.setIfInBounds_toArray, List.set_cons_succ, List.set_cons_zero])))); refine wpQuiet_nil ?_; intro w1 hb1; have hz1 := hb1.size)
        go_wp2
        go_meet
        case rel => exact ⟨rfl, hb1⟩
      · have h0d : decide ((0 : Int) < (n : Int)) = true := decide_eq_true (by omega)
        have h0f : decide (0 < n) = true := decide_eq_true (by omega)
        have h0e : (0 : Int) < (n : Int) := by omega
        have h0n : 0 < n := by omega
        obtain ⟨b6, off6, rfl, hb6, hc6⟩ := HR6.out (by have := HN.out; omega)
        have hM0 : 0 < M.length := by rw [HP.out.length_eq, List.length_range]; have := HN.out; omega
        have c0 := hc6 0 (.int .i64 ((M.getD 0 0 : Nat) : Int)) (by rw [ivs, List.getElem?_map, List.getElem?_eq_getElem hM0, getD_at hM0]; rfl)
        rw [Nat.add_zero] at c0
        have HBT := Lib.hid (fun (W : World) (hW : Below w2.heap.size w2 W) => (Best_t (w := W) (Q1.out.below hW) HF.out (by have := HN.out; omega) (head_best (by have := HN.out; omega) HP.out HS.out) : Calls Try.prog 19 #[.slice A5 n c5] W fun e w' => e = .returned (.int .i64 ((M.getD 0 0 : Nat) : Int)) ∧ Below W.heap.size W w'))
        have HC6 := Lib.hid hc6
        generalize M.getD 0 0 = j at *
        have hjj : ((j : Int) != (j : Int)) = false := by simp
        clear hc6 HR6 hM0
        go_wp2_with fail
        refine wp_region_held_drew (S := (fun W : World => Below w2.heap.size w2 W ∧ W.cell? ⟨b6, off6, none⟩ = some (.int .i64 (j : Int)))) (by kernel_rfl) ⟨bl_drew (Below.refl _ _), c0⟩ (fun hHeld => ?_)
        refine wpAnyH_take (i := 0) (oi := { dst := some 25, op := _, type := _, pos := _, after := _, guard := _ }) (v := ?_) rfl (by kernel_rfl) (by kernel_rfl) (by kernel_rfl) (fun _ _ _ h => h) (Or.inl ⟨by rfl, ?_⟩) hHeld ?_
        rotate_left
        · (intro w hSw; (try dsimp only at hSw); go_simp); all_goals with_reducible rfl
        try simp only [Act.put, List.setIfInBounds_toArray, List.set_cons_zero, List.set_cons_succ]
        refine wpAnyH_take (i := 1) (oi := { dst := some 26, op := _, type := _, pos := _, after := _, guard := _ }) (v := ?_) rfl (by kernel_rfl) (by kernel_rfl) (by kernel_rfl) (fun _ _ _ h => h) (Or.inl ⟨by rfl, ?_⟩) hHeld ?_
        rotate_left
        · (intro w hSw; (try dsimp only at hSw); go_simp); all_goals with_reducible rfl
        try simp only [Act.put, List.setIfInBounds_toArray, List.set_cons_zero, List.set_cons_succ]
        refine wpAnyH_take (i := 2) (oi := { dst := some 27, op := _, type := _, pos := _, after := _, guard := _ }) (v := ?_) rfl (by kernel_rfl) (by kernel_rfl) (by kernel_rfl) (fun _ _ _ h => h) (Or.inl ⟨by rfl, ?_⟩) hHeld ?_
        rotate_left
        · (intro w hSw; (try dsimp only at hSw); go_simp); all_goals with_reducible rfl
        try simp only [Act.put, List.setIfInBounds_toArray, List.set_cons_zero, List.set_cons_succ]
        refine wpAnyH_take (i := 3) (oi := { dst := some 28, op := _, type := _, pos := _, after := _, guard := _ }) (v := ?_) rfl (by kernel_rfl) (by kernel_rfl) (by kernel_rfl) (fun _ _ _ h => h) (Or.inl ⟨by rfl, ?_⟩) hHeld ?_
        rotate_left
        · (intro w hSw; (try dsimp only at hSw); go_simp); all_goals with_reducible rfl
        try simp only [Act.put, List.setIfInBounds_toArray, List.set_cons_zero, List.set_cons_succ]
        refine wpAnyH_take (i := 4) (oi := { dst := some 29, op := _, type := _, pos := _, after := _, guard := _ }) (v := ?_) rfl (by kernel_rfl) (by kernel_rfl) (by kernel_rfl) (fun _ _ _ h => h) (Or.inl ⟨by rfl, ?_⟩) hHeld ?_
        rotate_left
        · (intro w hSw; (try dsimp only at hSw); go_simp); all_goals with_reducible rfl
        try simp only [Act.put, List.setIfInBounds_toArray, List.set_cons_zero, List.set_cons_succ]
        refine wpAnyH_take (i := 5) (oi := { dst := some 30, op := _, type := _, pos := _, after := _, guard := _ }) (v := ?_) rfl (by kernel_rfl) (by kernel_rfl) (by kernel_rfl) (fun _ _ _ h => h) (Or.inl ⟨by rfl, ?_⟩) hHeld ?_
        rotate_left
        · (intro w hSw; (try dsimp only at hSw); go_simp); all_goals with_reducible rfl
        try simp only [Act.put, List.setIfInBounds_toArray, List.set_cons_zero, List.set_cons_succ]
        refine wpAnyH_take (i := 6) (oi := { dst := some 31, op := _, type := _, pos := _, after := _, guard := _ }) (v := ?_) rfl (by kernel_rfl) (by kernel_rfl) (by kernel_rfl) (fun _ _ _ h => h) (Or.inl ⟨by rfl, ?_⟩) hHeld ?_
        rotate_left
        · (intro w hSw; (try dsimp only at hSw); go_simp); all_goals with_reducible rfl
        try simp only [Act.put, List.setIfInBounds_toArray, List.set_cons_zero, List.set_cons_succ]
        refine wpAnyH_take (i := 7) (oi := { dst := some 32, op := _, type := _, pos := _, after := _, guard := _ }) (v := ?_) rfl (by kernel_rfl) (by kernel_rfl) (by kernel_rfl) (fun _ _ _ h => h) (Or.inl ⟨by rfl, ?_⟩) hHeld ?_
        rotate_left
        · (intro w hSw; (try dsimp only at hSw); go_simp); all_goals with_reducible rfl
        try simp only [Act.put, List.setIfInBounds_toArray, List.set_cons_zero, List.set_cons_succ]
        refine wpAnyH_take (i := 8) (oi := { dst := some 33, op := _, type := _, pos := _, after := _, guard := _ }) (v := ?_) rfl (by kernel_rfl) (by kernel_rfl) (by kernel_rfl) (fun _ _ _ h => h) (Or.inl ⟨by rfl, ?_⟩) hHeld ?_
        rotate_left
        · (intro w hSw; (try dsimp only at hSw); go_simp); all_goals with_reducible rfl
        try simp only [Act.put, List.setIfInBounds_toArray, List.set_cons_zero, List.set_cons_succ]
        refine wpAnyH_take (i := 9) (oi := { dst := some 34, op := _, type := _, pos := _, after := _, guard := _ }) (v := ?_) rfl (by kernel_rfl) (by kernel_rfl) (by kernel_rfl) (fun _ _ _ h => h) (Or.inl ⟨by rfl, ?_⟩) hHeld ?_
        rotate_left
        · (intro w hSw; (try dsimp only at hSw); go_simp); all_goals with_reducible rfl
        try simp only [Act.put, List.setIfInBounds_toArray, List.set_cons_zero, List.set_cons_succ]
        refine wpAnyH_take (i := 10) (oi := { dst := some 35, op := _, type := _, pos := _, after := _, guard := _ }) (v := ?_) rfl (by kernel_rfl) (by kernel_rfl) (by kernel_rfl) (fun _ _ _ h => h) (Or.inl ⟨by rfl, ?_⟩) hHeld ?_
        rotate_left
        · (intro w hSw; (try dsimp only at hSw); go_simp); all_goals with_reducible rfl
        try simp only [Act.put, List.setIfInBounds_toArray, List.set_cons_zero, List.set_cons_succ]
        refine wpAnyH_take (i := 12) (oi := { dst := some 37, op := _, type := _, pos := _, after := _, guard := _ }) (v := ?_) rfl (by kernel_rfl) (by kernel_rfl) (by kernel_rfl) (fun _ _ _ h => h) (Or.inl ⟨by rfl, ?_⟩) hHeld ?_
        rotate_left
        · (intro w hSw; (try dsimp only at hSw); go_simp); all_goals with_reducible rfl
        try simp only [Act.put, List.setIfInBounds_toArray, List.set_cons_zero, List.set_cons_succ]
        refine wpAnyH_take (i := 13) (oi := { dst := some 38, op := _, type := _, pos := _, after := _, guard := _ }) (v := ?_) rfl (by kernel_rfl) (by kernel_rfl) (by kernel_rfl) (fun _ _ _ h => h) (Or.inl ⟨by rfl, ?_⟩) hHeld ?_
        rotate_left
        · (intro w hSw; (try dsimp only at hSw); go_simp); all_goals with_reducible rfl
        try simp only [Act.put, List.setIfInBounds_toArray, List.set_cons_zero, List.set_cons_succ]
        refine wpAnyH_take (i := 14) (oi := { dst := some 39, op := _, type := _, pos := _, after := _, guard := _ }) (v := ?_) rfl (by kernel_rfl) (by kernel_rfl) (by kernel_rfl) (fun _ _ _ h => h) (Or.inl ⟨by rfl, ?_⟩) hHeld ?_
        rotate_left
        · (intro w hSw; (try dsimp only at hSw); go_simp); all_goals with_reducible rfl
        try simp only [Act.put, List.setIfInBounds_toArray, List.set_cons_zero, List.set_cons_succ]
        refine wpAnyH_ready (rs := [11]) (by kernel_rfl) (by simp) (AllReadyH.cons (o := _) rfl (fun K hK => ?_) AllReadyH.nil)
        go_simp
        refine (HBT.out _ (bl_drew (Below.refl _ _))).mono ?_
        rintro e wq ⟨rfl, hq⟩
        have hb1 : Below w2.heap.size w2 wq := by (repeat (with_reducible (first | exact Below.refl _ _ | assumption | refine bl_alloc ?_ _ | refine bl_drew ?_ | refine bl_drewN ?_ _ | (refine bl_set ?_ ?_ _; (focus (first | (simp; done) | (simp; omega) | omega))) | refine bl_then ?_ (by assumption))))
        refine hK.out _ _ ⟨hb1, (hb1.cell (by exact hb6)).trans c0⟩ (fun hHeld => ?_)
        clear hK K
        refine wpAnyH_take (i := 15) (oi := { dst := some 40, op := _, type := _, pos := _, after := _, guard := _ }) (v := ?_) rfl (by kernel_rfl) (by kernel_rfl) (by kernel_rfl) (fun _ _ _ h => h) (Or.inl ⟨by rfl, ?_⟩) hHeld ?_
        rotate_left
        · (intro w hSw; (try dsimp only at hSw); go_simp); all_goals with_reducible rfl
        try simp only [Act.put, List.setIfInBounds_toArray, List.set_cons_zero, List.set_cons_succ]
        refine wpAnyH_take (i := 16) (oi := { dst := some 41, op := _, type := _, pos := _, after := _, guard := _ }) (v := ?_) rfl (by kernel_rfl) (by kernel_rfl) (by kernel_rfl) (fun _ _ _ h => h) (Or.inl ⟨by rfl, ?_⟩) hHeld ?_
        rotate_left
        · (intro w hSw; (try dsimp only at hSw); go_simp); all_goals with_reducible rfl
        try simp only [Act.put, List.setIfInBounds_toArray, List.set_cons_zero, List.set_cons_succ]
        refine wpAnyH_take (i := 17) (oi := { dst := some 42, op := _, type := _, pos := _, after := _, guard := _ }) (v := ?_) rfl (by kernel_rfl) (by kernel_rfl) (by kernel_rfl) (fun _ _ _ h => h) (Or.inl ⟨by rfl, ?_⟩) hHeld ?_
        rotate_left
        · (intro w hSw; (try dsimp only at hSw); go_simp); all_goals with_reducible rfl
        try simp only [Act.put, List.setIfInBounds_toArray, List.set_cons_zero, List.set_cons_succ]
        refine wpAnyH_done (by kernel_rfl) ?_ _
        go_wp2
        go_meet
        case rel => exact ⟨rfl, hb1⟩
    case rest =>
      obtain ⟨rfl, hb3⟩ := hcut
      have hmk := fun W => make_bools (M := M) n (by omega) W
      go_wp2_with fail
      clear hmk
      have hbm : w2.heap.size ≤ wc.heap.size := hb3.size
      have MB := Lib.hid (kb_new (w := wc) rfl (.cells (bcs (metL M n 0)) 4))
      have HB3 := bl_alloc hb3 (.cells (bcs (metL M n 0)) 4)
      obtain ⟨bm, hbm2⟩ : ∃ bm, wc.heap.size = bm := ⟨_, rfl⟩
      generalize wc.alloc (.cells (bcs (metL M n 0)) 4) = w3 at *
      rw [hbm2] at MB hbm ⊢
      clear hbm2 hb3
      have hMl : Hid (M.length = n) := Lib.hid (by rw [HP.out.length_eq, List.length_range, HN.out])
      go_loopw [9, 10, 46, 47, 48, 49, 50, 51, 52, 53, 54, 55, 56, 57, 58, 59, 60, 61, 62, 63, 64, 65, 66, 67, 68, 69, 70, 71, 72, 73, 74, 75, 76, 77, 78, 79, 80, 81, 82, 83, 84, 85, 86, 87, 88, 89, 90, 91, 92, 93, 94, 95, 96, 97, 98, 99, 100, 101, 102, 103, 104, 105, 106, 107, 108, 109, 110, 111, 112, 113, 114, 115, 116, 117, 118, 119, 120, 121, 122, 123, 124, 125, 126, 127, 128, 129] (fun s9 _ _ _ _ _ _ _ _ _ _ _ _ _ _ _ _ _ _ _ _ _ _ _ _ _ _ _ _ _ _ _ _ _ _ _ _ _ _ _ _ _ _ _ _ _ _ _ _ _ _ _ _ _ _ _ _ _ _ _ _ _ _ _ _ _ _ _ _ _ _ _ _ _ _ _ _ _ _ _ _ _ _ _ _ _ wr => ∃ k : Nat, k ≤ n ∧ s9 = .int .i64 k ∧ Hid (wr.heap[bm]? = some (.cells (bcs (metL M n k)) 4)) ∧ Below w2.heap.size w2 wr) (fun s9 _ _ _ _ _ _ _ _ _ _ _ _ _ _ _ _ _ _ _ _ _ _ _ _ _ _ _ _ _ _ _ _ _ _ _ _ _ _ _ _ _ _ _ _ _ _ _ _ _ _ _ _ _ _ _ _ _ _ _ _ _ _ _ _ _ _ _ _ _ _ _ _ _ _ _ _ _ _ _ _ _ _ _ _ _ _ => n - (intOf s9).toNat)
      case atStart => exact ⟨0, by omega, rfl, MB.out, HB3⟩
      case round =>
        obtain ⟨k, hk, rfl, HMB, hn3⟩ := hrel
        by_cases hlt : k < n
        · obtain ⟨b6, off6, rfl, hb6, hc6⟩ := HR6.out (by have := HN.out; omega)
          obtain ⟨b5, off5, rfl, hb5, hc5⟩ := HR5.out (by have := HN.out; omega)
          obtain ⟨j, hj⟩ : ∃ j, M.getD k 0 = j := ⟨_, rfl⟩
          have hkM : k < M.length := by have := hMl.out; omega
          have hjn : j < n := by rw [← hj]; have := List.mem_range.1 (HP.out.subset (getD_mem hkM)); have := HN.out; omega
          have ck0 := hc6 k (.int .i64 (j : Int)) (by rw [ivs, List.getElem?_map, List.getElem?_eq_getElem hkM, ← getD_at hkM, hj]; rfl)
          have ck := (hn3.cell (by exact hb6)).trans ck0
          have hfresh : j ∉ M.take k := by rw [← hj]; exact fresh_at (perm_nodup HP.out) hkM
          have cm := (kb_cell HMB.out j).trans (bcs_at M n k j hjn)
          rw [decide_eq_false hfresh] at cm
          have zm := kb_frozen HMB.out j
          have MB2 := kb_set (i := j) HMB.out (.bool true)
          rw [bcs_set M n k j hj hkM] at MB2
          have HMB2 := Lib.hid MB2
          have hjz : ¬ (j : Int) < 0 := by omega
          have hjz2 : (j : Int) < (n : Int) := by omega
          have HJ := Lib.hid hj
          have hne : b6 ≠ bm := by omega
          have hne5 : b5 ≠ bm := by omega
          have cks := (World.cell?_setCell_far wr ⟨bm, j, none⟩ ⟨b6, off6 + k, none⟩ (.bool true) (fun h => hne h.symm)).trans ck
          have hk30 : Below w2.heap.size w2 (wr.setCell ⟨bm, j, none⟩ (.bool true)) := bl_set (by exact hbm) hn3 _
          have HC6 := Lib.hid hc6
          have HC5 := Lib.hid hc5
          clear hj hkM hfresh MB2 hc6 hc5 ck0 HR5 HR6
          go_wp2_with fail
          clear ck cm zm
          obtain ⟨wo, hwo⟩ : ∃ wo : World, wo = wr.setCell ⟨bm, j, none⟩ (.bool true) := ⟨_, rfl⟩
          rw [← hwo] at cks hk30 HMB2 ⊢
          clear hwo
          go_loopw [10, 81, 82, 83, 84, 85, 86, 87, 88, 89, 90, 91, 92, 93, 94, 95, 96, 97, 98, 99, 100, 101, 102, 103, 104, 105, 106, 107, 108, 109, 110, 111, 112, 113, 114, 115, 116, 117, 118, 119, 120, 121, 122, 123, 124, 125, 126, 127, 128, 129] (fun s10 _ _ _ _ _ _ _ _ _ _ _ _ _ _ _ _ _ _ _ _ _ _ _ _ _ _ _ _ _ _ _ _ _ _ _ _ _ _ _ _ _ _ _ _ _ _ _ _ _ wr => ∃ q : Nat, q ≤ k ∧ s10 = .int .i64 q ∧ Below wo.heap.size wo wr) (fun s10 _ _ _ _ _ _ _ _ _ _ _ _ _ _ _ _ _ _ _ _ _ _ _ _ _ _ _ _ _ _ _ _ _ _ _ _ _ _ _ _ _ _ _ _ _ _ _ _ _ _ => k - (intOf s10).toNat)
          case atStart => exact ⟨0, by omega, rfl, Below.refl _ _⟩
          case round =>
            obtain ⟨q, hq0, rfl, hn4⟩ := hrel
            by_cases hqk : q < k
            · obtain ⟨i2, hi2⟩ : ∃ i2, M.getD q 0 = i2 := ⟨_, rfl⟩
              have hqM : q < M.length := by have := hMl.out; omega
              have hkM : k < M.length := by have := hMl.out; omega
              have hin : i2 < n := by rw [← hi2]; have := List.mem_range.1 (HP.out.subset (getD_mem hqM)); have := HN.out; omega
              have hlt2 : ltM ms i2 j = true := by rw [← hi2, ← HJ.out]; exact srt_get HS.out hqk hkM
              have hBo := bl_then hk30 hn4
              have g1 : wr.cell? ⟨b6, off6 + k, none⟩ = some (.int .i64 (j : Int)) := (hn4.cell (by exact Nat.lt_of_lt_of_le hb6 hk30.size)).trans cks
              have g2 : wr.cell? ⟨b6, off6 + q, none⟩ = some (.int .i64 (i2 : Int)) := (hBo.cell (by exact hb6)).trans (HC6.out q _ (by rw [ivs, List.getElem?_map, List.getElem?_eq_getElem hqM, ← getD_at hqM, hi2]; rfl))
              obtain ⟨x1, x2⟩ := HC5.out j _ (mrAt_some (by have := HN.out; omega))
              obtain ⟨x3, x4⟩ := HC5.out i2 _ (mrAt_some (by have := HN.out; omega))
              have a1 := (hBo.cell (by exact hb5)).trans x1
              have a2 := (hBo.cell (by exact hb5)).trans x2
              have a3 := (hBo.cell (by exact hb5)).trans x3
              have a4 := (hBo.cell (by exact hb5)).trans x4
              have l5 : b5 < wr.heap.size := Nat.lt_of_lt_of_le hb5 hBo.size
              have l6 : b6 < wr.heap.size := Nat.lt_of_lt_of_le hb6 hBo.size
              have p1 := HF.out.at j
              have p2 := HF.out.at i2
              have e1 : betM (mrAt ms j).s (mrAt ms j).p (mrAt ms i2).s (mrAt ms i2).p = false := not_better HF.out hlt2
              have e2 : betM (mrAt ms i2).s (mrAt ms i2).p (mrAt ms j).s (mrAt ms j).p = true ∨ i2 < j := better_or HF.out hlt2
              have G1 := Lib.hid (fun W => Better_any (mrAt ms j).s (mrAt ms j).p (mrAt ms i2).s (mrAt ms i2).p W p1 p2)
              have G2 := Lib.hid (fun W => Better_any (mrAt ms i2).s (mrAt ms i2).p (mrAt ms j).s (mrAt ms j).p W p2 p1)
              rw [e1] at G1
              generalize betM (mrAt ms i2).s (mrAt ms i2).p (mrAt ms j).s (mrAt ms j).p = t2 at *
              generalize mrAt ms j = x at *
              generalize mrAt ms i2 = y at *
              have r5 : (q : Int) < (n : Int) := by omega
              have r6 : (k : Int) < (n : Int) := by omega
              have r7 : (i2 : Int) < (n : Int) := by omega
              clear x1 x2 x3 x4 p1 p2 e1 hlt2 hi2 hqM hkM
              cases t2
              · have hij : decide ((j : Int) < (i2 : Int)) = false := decide_eq_false (by rcases e2 with h | h; cases h; omega)
                have hij2 : decide (j < i2) = false := decide_eq_false (by rcases e2 with h | h; cases h; omega)
                go_wp2_with fail
                refine wp_region_held_drew (S := (fun W : World => W.cell? ⟨b6, off6 + k, none⟩ = some (.int .i64 (j : Int)) ∧ W.cell? ⟨b6, off6 + q, none⟩ = some (.int .i64 (i2 : Int)) ∧ W.cell? ⟨b5, off5 + j * 2, none⟩ = some (.int .i64 x.s) ∧ W.cell? ⟨b5, off5 + j * 2 + 1, none⟩ = some (.float .f64 x.p) ∧ W.cell? ⟨b5, off5 + i2 * 2, none⟩ = some (.int .i64 y.s) ∧ W.cell? ⟨b5, off5 + i2 * 2 + 1, none⟩ = some (.float .f64 y.p))) (by kernel_rfl) ⟨g1, g2, a1, a2, a3, a4⟩ (fun hHeld => ?_)
                refine wpAnyH_take (i := 0) (oi := { dst := some 86, op := _, type := _, pos := _, after := _, guard := _ }) (v := ?_) rfl (by kernel_rfl) (by kernel_rfl) (by kernel_rfl) (fun _ _ _ h => h) (Or.inl ⟨by rfl, ?_⟩) hHeld ?_
                rotate_left
                · (intro w hSw; (try dsimp only at hSw); go_simp); all_goals with_reducible rfl
                try simp only [Act.put, List.setIfInBounds_toArray, List.set_cons_zero, List.set_cons_succ]
                refine wpAnyH_take (i := 1) (oi := { dst := some 87, op := _, type := _, pos := _, after := _, guard := _ }) (v := ?_) rfl (by kernel_rfl) (by kernel_rfl) (by kernel_rfl) (fun _ _ _ h => h) (Or.inl ⟨by rfl, ?_⟩) hHeld ?_
                rotate_left
                · (intro w hSw; (try dsimp only at hSw); go_simp); all_goals with_reducible rfl
                try simp only [Act.put, List.setIfInBounds_toArray, List.set_cons_zero, List.set_cons_succ]
                refine wpAnyH_take (i := 2) (oi := { dst := some 88, op := _, type := _, pos := _, after := _, guard := _ }) (v := ?_) rfl (by kernel_rfl) (by kernel_rfl) (by kernel_rfl) (fun _ _ _ h => h) (Or.inl ⟨by rfl, ?_⟩) hHeld ?_
                rotate_left
                · (intro w hSw; (try dsimp only at hSw); go_simp); all_goals with_reducible rfl
                try simp only [Act.put, List.setIfInBounds_toArray, List.set_cons_zero, List.set_cons_succ]
                refine wpAnyH_take (i := 3) (oi := { dst := some 89, op := _, type := _, pos := _, after := _, guard := _ }) (v := ?_) rfl (by kernel_rfl) (by kernel_rfl) (by kernel_rfl) (fun _ _ _ h => h) (Or.inl ⟨by rfl, ?_⟩) hHeld ?_
                rotate_left
                · (intro w hSw; (try dsimp only at hSw); go_simp); all_goals with_reducible rfl
                try simp only [Act.put, List.setIfInBounds_toArray, List.set_cons_zero, List.set_cons_succ]
                refine wpAnyH_take (i := 4) (oi := { dst := some 90, op := _, type := _, pos := _, after := _, guard := _ }) (v := ?_) rfl (by kernel_rfl) (by kernel_rfl) (by kernel_rfl) (fun _ _ _ h => h) (Or.inl ⟨by rfl, ?_⟩) hHeld ?_
                rotate_left
                · (intro w hSw; (try dsimp only at hSw); go_simp); all_goals with_reducible rfl
                try simp only [Act.put, List.setIfInBounds_toArray, List.set_cons_zero, List.set_cons_succ]
                refine wpAnyH_take (i := 5) (oi := { dst := some 91, op := _, type := _, pos := _, after := _, guard := _ }) (v := ?_) rfl (by kernel_rfl) (by kernel_rfl) (by kernel_rfl) (fun _ _ _ h => h) (Or.inl ⟨by rfl, ?_⟩) hHeld ?_
                rotate_left
                · (intro w hSw; (try dsimp only at hSw); go_simp); all_goals with_reducible rfl
                try simp only [Act.put, List.setIfInBounds_toArray, List.set_cons_zero, List.set_cons_succ]
                refine wpAnyH_take (i := 6) (oi := { dst := some 92, op := _, type := _, pos := _, after := _, guard := _ }) (v := ?_) rfl (by kernel_rfl) (by kernel_rfl) (by kernel_rfl) (fun _ _ _ h => h) (Or.inl ⟨by rfl, ?_⟩) hHeld ?_
                rotate_left
                · (intro w hSw; (try dsimp only at hSw); go_simp); all_goals with_reducible rfl
                try simp only [Act.put, List.setIfInBounds_toArray, List.set_cons_zero, List.set_cons_succ]
                refine wpAnyH_take (i := 7) (oi := { dst := some 93, op := _, type := _, pos := _, after := _, guard := _ }) (v := ?_) rfl (by kernel_rfl) (by kernel_rfl) (by kernel_rfl) (fun _ _ _ h => h) (Or.inl ⟨by rfl, ?_⟩) hHeld ?_
                rotate_left
                · (intro w hSw; (try dsimp only at hSw); go_simp); all_goals with_reducible rfl
                try simp only [Act.put, List.setIfInBounds_toArray, List.set_cons_zero, List.set_cons_succ]
                refine wpAnyH_take (i := 8) (oi := { dst := some 94, op := _, type := _, pos := _, after := _, guard := _ }) (v := ?_) rfl (by kernel_rfl) (by kernel_rfl) (by kernel_rfl) (fun _ _ _ h => h) (Or.inl ⟨by rfl, ?_⟩) hHeld ?_
                rotate_left
                · (intro w hSw; (try dsimp only at hSw); go_simp); all_goals with_reducible rfl
                try simp only [Act.put, List.setIfInBounds_toArray, List.set_cons_zero, List.set_cons_succ]
                refine wpAnyH_take (i := 9) (oi := { dst := some 95, op := _, type := _, pos := _, after := _, guard := _ }) (v := ?_) rfl (by kernel_rfl) (by kernel_rfl) (by kernel_rfl) (fun _ _ _ h => h) (Or.inl ⟨by rfl, ?_⟩) hHeld ?_
                rotate_left
                · (intro w hSw; (try dsimp only at hSw); go_simp); all_goals with_reducible rfl
                try simp only [Act.put, List.setIfInBounds_toArray, List.set_cons_zero, List.set_cons_succ]
                refine wpAnyH_take (i := 10) (oi := { dst := some 96, op := _, type := _, pos := _, after := _, guard := _ }) (v := ?_) rfl (by kernel_rfl) (by kernel_rfl) (by kernel_rfl) (fun _ _ _ h => h) (Or.inl ⟨by rfl, ?_⟩) hHeld ?_
                rotate_left
                · (intro w hSw; (try dsimp only at hSw); go_simp); all_goals with_reducible rfl
                try simp only [Act.put, List.setIfInBounds_toArray, List.set_cons_zero, List.set_cons_succ]
                refine wpAnyH_take (i := 11) (oi := { dst := some 97, op := _, type := _, pos := _, after := _, guard := _ }) (v := ?_) rfl (by kernel_rfl) (by kernel_rfl) (by kernel_rfl) (fun _ _ _ h => h) (Or.inl ⟨by rfl, ?_⟩) hHeld ?_
                rotate_left
                · (intro w hSw; (try dsimp only at hSw); go_simp); all_goals with_reducible rfl
                try simp only [Act.put, List.setIfInBounds_toArray, List.set_cons_zero, List.set_cons_succ]
                refine wpAnyH_take (i := 12) (oi := { dst := some 98, op := _, type := _, pos := _, after := _, guard := _ }) (v := ?_) rfl (by kernel_rfl) (by kernel_rfl) (by kernel_rfl) (fun _ _ _ h => h) (Or.inl ⟨by rfl, ?_⟩) hHeld ?_
                rotate_left
                · (intro w hSw; (try dsimp only at hSw); go_simp); all_goals with_reducible rfl
                try simp only [Act.put, List.setIfInBounds_toArray, List.set_cons_zero, List.set_cons_succ]
                refine wpAnyH_take (i := 13) (oi := { dst := some 99, op := _, type := _, pos := _, after := _, guard := _ }) (v := ?_) rfl (by kernel_rfl) (by kernel_rfl) (by kernel_rfl) (fun _ _ _ h => h) (Or.inl ⟨by rfl, ?_⟩) hHeld ?_
                rotate_left
                · (intro w hSw; (try dsimp only at hSw); go_simp); all_goals with_reducible rfl
                try simp only [Act.put, List.setIfInBounds_toArray, List.set_cons_zero, List.set_cons_succ]
                refine wpAnyH_ready (rs := [14]) (by kernel_rfl) (by simp) (AllReadyH.cons (o := _) rfl (fun K hK => ?_) AllReadyH.nil)
                go_simp
                refine (G1.out _).mono ?_
                rintro e wq0 ⟨rfl, hq0⟩
                have g1_0 : wq0.cell? ⟨b6, off6 + k, none⟩ = some (.int .i64 (j : Int)) := (hq0.cell (by exact l6)).trans g1
                have g2_0 : wq0.cell? ⟨b6, off6 + q, none⟩ = some (.int .i64 (i2 : Int)) := (hq0.cell (by exact l6)).trans g2
                have a1_0 : wq0.cell? ⟨b5, off5 + j * 2, none⟩ = some (.int .i64 x.s) := (hq0.cell (by exact l5)).trans a1
                have a2_0 : wq0.cell? ⟨b5, off5 + j * 2 + 1, none⟩ = some (.float .f64 x.p) := (hq0.cell (by exact l5)).trans a2
                have a3_0 : wq0.cell? ⟨b5, off5 + i2 * 2, none⟩ = some (.int .i64 y.s) := (hq0.cell (by exact l5)).trans a3
                have a4_0 : wq0.cell? ⟨b5, off5 + i2 * 2 + 1, none⟩ = some (.float .f64 y.p) := (hq0.cell (by exact l5)).trans a4
                have l5_0 : b5 < wq0.heap.size := Nat.lt_of_lt_of_le l5 hq0.size
                have l6_0 : b6 < wq0.heap.size := Nat.lt_of_lt_of_le l6 hq0.size
                refine hK.out _ _ ⟨g1_0, g2_0, a1_0, a2_0, a3_0, a4_0⟩ (fun hHeld => ?_)
                clear hK K
                refine wpAnyH_take (i := 15) (oi := { dst := some 101, op := _, type := _, pos := _, after := _, guard := _ }) (v := ?_) rfl (by kernel_rfl) (by kernel_rfl) (by kernel_rfl) (fun _ _ _ h => h) (Or.inl ⟨by rfl, ?_⟩) hHeld ?_
                rotate_left
                · (intro w hSw; (try dsimp only at hSw); go_simp); all_goals with_reducible rfl
                try simp only [Act.put, List.setIfInBounds_toArray, List.set_cons_zero, List.set_cons_succ]
                refine wpAnyH_take (i := 16) (oi := { dst := some 102, op := _, type := _, pos := _, after := _, guard := _ }) (v := ?_) rfl (by kernel_rfl) (by kernel_rfl) (by kernel_rfl) (fun _ _ _ h => h) (Or.inl ⟨by rfl, ?_⟩) hHeld ?_
                rotate_left
                · (intro w hSw; (try dsimp only at hSw); go_simp); all_goals with_reducible rfl
                try simp only [Act.put, List.setIfInBounds_toArray, List.set_cons_zero, List.set_cons_succ]
                refine wpAnyH_take (i := 17) (oi := { dst := some 103, op := _, type := _, pos := _, after := _, guard := _ }) (v := ?_) rfl (by kernel_rfl) (by kernel_rfl) (by kernel_rfl) (fun _ _ _ h => h) (Or.inl ⟨by rfl, ?_⟩) hHeld ?_
                rotate_left
                · (intro w hSw; (try dsimp only at hSw); go_simp); all_goals with_reducible rfl
                try simp only [Act.put, List.setIfInBounds_toArray, List.set_cons_zero, List.set_cons_succ]
                refine wpAnyH_take (i := 18) (oi := { dst := some 104, op := _, type := _, pos := _, after := _, guard := _ }) (v := ?_) rfl (by kernel_rfl) (by kernel_rfl) (by kernel_rfl) (fun _ _ _ h => h) (Or.inl ⟨by rfl, ?_⟩) hHeld ?_
                rotate_left
                · (intro w hSw; (try dsimp only at hSw); go_simp); all_goals with_reducible rfl
                try simp only [Act.put, List.setIfInBounds_toArray, List.set_cons_zero, List.set_cons_succ]
                refine wpAnyH_take (i := 19) (oi := { dst := some 105, op := _, type := _, pos := _, after := _, guard := _ }) (v := ?_) rfl (by kernel_rfl) (by kernel_rfl) (by kernel_rfl) (fun _ _ _ h => h) (Or.inl ⟨by rfl, ?_⟩) hHeld ?_
                rotate_left
                · (intro w hSw; (try dsimp only at hSw); go_simp); all_goals with_reducible rfl
                try simp only [Act.put, List.setIfInBounds_toArray, List.set_cons_zero, List.set_cons_succ]
                refine wpAnyH_take (i := 20) (oi := { dst := some 106, op := _, type := _, pos := _, after := _, guard := _ }) (v := ?_) rfl (by kernel_rfl) (by kernel_rfl) (by kernel_rfl) (fun _ _ _ h => h) (Or.inl ⟨by rfl, ?_⟩) hHeld ?_
                rotate_left
                · (intro w hSw; (try dsimp only at hSw); go_simp); all_goals with_reducible rfl
                try simp only [Act.put, List.setIfInBounds_toArray, List.set_cons_zero, List.set_cons_succ]
                refine wpAnyH_take (i := 21) (oi := { dst := some 107, op := _, type := _, pos := _, after := _, guard := _ }) (v := ?_) rfl (by kernel_rfl) (by kernel_rfl) (by kernel_rfl) (fun _ _ _ h => h) (Or.inl ⟨by rfl, ?_⟩) hHeld ?_
                rotate_left
                · (intro w hSw; (try dsimp only at hSw); go_simp); all_goals with_reducible rfl
                try simp only [Act.put, List.setIfInBounds_toArray, List.set_cons_zero, List.set_cons_succ]
                refine wpAnyH_take (i := 22) (oi := { dst := some 108, op := _, type := _, pos := _, after := _, guard := _ }) (v := ?_) rfl (by kernel_rfl) (by kernel_rfl) (by kernel_rfl) (fun _ _ _ h => h) (Or.inl ⟨by rfl, ?_⟩) hHeld ?_
                rotate_left
                · (intro w hSw; (try dsimp only at hSw); go_simp); all_goals with_reducible rfl
                try simp only [Act.put, List.setIfInBounds_toArray, List.set_cons_zero, List.set_cons_succ]
                refine wpAnyH_take (i := 23) (oi := { dst := some 109, op := _, type := _, pos := _, after := _, guard := _ }) (v := ?_) rfl (by kernel_rfl) (by kernel_rfl) (by kernel_rfl) (fun _ _ _ h => h) (Or.inl ⟨by rfl, ?_⟩) hHeld ?_
                rotate_left
                · (intro w hSw; (try dsimp only at hSw); go_simp); all_goals with_reducible rfl
                try simp only [Act.put, List.setIfInBounds_toArray, List.set_cons_zero, List.set_cons_succ]
                refine wpAnyH_take (i := 24) (oi := { dst := some 110, op := _, type := _, pos := _, after := _, guard := _ }) (v := ?_) rfl (by kernel_rfl) (by kernel_rfl) (by kernel_rfl) (fun _ _ _ h => h) (Or.inl ⟨by rfl, ?_⟩) hHeld ?_
                rotate_left
                · (intro w hSw; (try dsimp only at hSw); go_simp); all_goals with_reducible rfl
                try simp only [Act.put, List.setIfInBounds_toArray, List.set_cons_zero, List.set_cons_succ]
                refine wpAnyH_take (i := 25) (oi := { dst := some 111, op := _, type := _, pos := _, after := _, guard := _ }) (v := ?_) rfl (by kernel_rfl) (by kernel_rfl) (by kernel_rfl) (fun _ _ _ h => h) (Or.inl ⟨by rfl, ?_⟩) hHeld ?_
                rotate_left
                · (intro w hSw; (try dsimp only at hSw); go_simp); all_goals with_reducible rfl
                try simp only [Act.put, List.setIfInBounds_toArray, List.set_cons_zero, List.set_cons_succ]
                refine wpAnyH_take (i := 26) (oi := { dst := some 112, op := _, type := _, pos := _, after := _, guard := _ }) (v := ?_) rfl (by kernel_rfl) (by kernel_rfl) (by kernel_rfl) (fun _ _ _ h => h) (Or.inl ⟨by rfl, ?_⟩) hHeld ?_
                rotate_left
                · (intro w hSw; (try dsimp only at hSw); go_simp); all_goals with_reducible rfl
                try simp only [Act.put, List.setIfInBounds_toArray, List.set_cons_zero, List.set_cons_succ]
                refine wpAnyH_take (i := 27) (oi := { dst := some 113, op := _, type := _, pos := _, after := _, guard := _ }) (v := ?_) rfl (by kernel_rfl) (by kernel_rfl) (by kernel_rfl) (fun _ _ _ h => h) (Or.inl ⟨by rfl, ?_⟩) hHeld ?_
                rotate_left
                · (intro w hSw; (try dsimp only at hSw); go_simp); all_goals with_reducible rfl
                try simp only [Act.put, List.setIfInBounds_toArray, List.set_cons_zero, List.set_cons_succ]
                refine wpAnyH_take (i := 28) (oi := { dst := some 114, op := _, type := _, pos := _, after := _, guard := _ }) (v := ?_) rfl (by kernel_rfl) (by kernel_rfl) (by kernel_rfl) (fun _ _ _ h => h) (Or.inl ⟨by rfl, ?_⟩) hHeld ?_
                rotate_left
                · (intro w hSw; (try dsimp only at hSw); go_simp); all_goals with_reducible rfl
                try simp only [Act.put, List.setIfInBounds_toArray, List.set_cons_zero, List.set_cons_succ]
                refine wpAnyH_take (i := 29) (oi := { dst := some 115, op := _, type := _, pos := _, after := _, guard := _ }) (v := ?_) rfl (by kernel_rfl) (by kernel_rfl) (by kernel_rfl) (fun _ _ _ h => h) (Or.inl ⟨by rfl, ?_⟩) hHeld ?_
                rotate_left
                · (intro w hSw; (try dsimp only at hSw); go_simp); all_goals with_reducible rfl
                try simp only [Act.put, List.setIfInBounds_toArray, List.set_cons_zero, List.set_cons_succ]
                refine wpAnyH_ready (rs := [30]) (by kernel_rfl) (by simp) (AllReadyH.cons (o := _) rfl (fun K hK => ?_) AllReadyH.nil)
                go_simp
                refine (G2.out _).mono ?_
                rintro e wq1 ⟨rfl, hq1⟩
                have g1_1 : wq1.cell? ⟨b6, off6 + k, none⟩ = some (.int .i64 (j : Int)) := (hq1.cell (by exact l6_0)).trans g1_0
                have g2_1 : wq1.cell? ⟨b6, off6 + q, none⟩ = some (.int .i64 (i2 : Int)) := (hq1.cell (by exact l6_0)).trans g2_0
                have a1_1 : wq1.cell? ⟨b5, off5 + j * 2, none⟩ = some (.int .i64 x.s) := (hq1.cell (by exact l5_0)).trans a1_0
                have a2_1 : wq1.cell? ⟨b5, off5 + j * 2 + 1, none⟩ = some (.float .f64 x.p) := (hq1.cell (by exact l5_0)).trans a2_0
                have a3_1 : wq1.cell? ⟨b5, off5 + i2 * 2, none⟩ = some (.int .i64 y.s) := (hq1.cell (by exact l5_0)).trans a3_0
                have a4_1 : wq1.cell? ⟨b5, off5 + i2 * 2 + 1, none⟩ = some (.float .f64 y.p) := (hq1.cell (by exact l5_0)).trans a4_0
                have l5_1 : b5 < wq1.heap.size := Nat.lt_of_lt_of_le l5_0 hq1.size
                have l6_1 : b6 < wq1.heap.size := Nat.lt_of_lt_of_le l6_0 hq1.size
                refine hK.out _ _ ⟨g1_1, g2_1, a1_1, a2_1, a3_1, a4_1⟩ (fun hHeld => ?_)
                clear hK K
                refine wpAnyH_take (i := 31) (oi := { dst := some 117, op := _, type := _, pos := _, after := _, guard := _ }) (v := ?_) rfl (by kernel_rfl) (by kernel_rfl) (by kernel_rfl) (fun _ _ _ h => h) (Or.inl ⟨by rfl, ?_⟩) hHeld ?_
                rotate_left
                · (intro w hSw; (try dsimp only at hSw); go_simp); all_goals with_reducible rfl
                try simp only [Act.put, List.setIfInBounds_toArray, List.set_cons_zero, List.set_cons_succ]
                refine wpAnyH_take (i := 32) (oi := { dst := some 118, op := _, type := _, pos := _, after := _, guard := _ }) (v := ?_) rfl (by kernel_rfl) (by kernel_rfl) (by kernel_rfl) (fun _ _ _ h => h) (Or.inl ⟨by rfl, ?_⟩) hHeld ?_
                rotate_left
                · (intro w hSw; (try dsimp only at hSw); go_simp); all_goals with_reducible rfl
                try simp only [Act.put, List.setIfInBounds_toArray, List.set_cons_zero, List.set_cons_succ]
                refine wpAnyH_take (i := 33) (oi := { dst := some 119, op := _, type := _, pos := _, after := _, guard := _ }) (v := ?_) rfl (by kernel_rfl) (by kernel_rfl) (by kernel_rfl) (fun _ _ _ h => h) (Or.inl ⟨by rfl, ?_⟩) hHeld ?_
                rotate_left
                · (intro w hSw; (try dsimp only at hSw); go_simp); all_goals with_reducible rfl
                try simp only [Act.put, List.setIfInBounds_toArray, List.set_cons_zero, List.set_cons_succ]
                refine wpAnyH_take (i := 34) (oi := { dst := some 120, op := _, type := _, pos := _, after := _, guard := _ }) (v := ?_) rfl (by kernel_rfl) (by kernel_rfl) (by kernel_rfl) (fun _ _ _ h => h) (Or.inl ⟨by rfl, ?_⟩) hHeld ?_
                rotate_left
                · (intro w hSw; (try dsimp only at hSw); go_simp); all_goals with_reducible rfl
                try simp only [Act.put, List.setIfInBounds_toArray, List.set_cons_zero, List.set_cons_succ]
                refine wpAnyH_take (i := 35) (oi := { dst := some 121, op := _, type := _, pos := _, after := _, guard := _ }) (v := ?_) rfl (by kernel_rfl) (by kernel_rfl) (by kernel_rfl) (fun _ _ _ h => h) (Or.inl ⟨by rfl, ?_⟩) hHeld ?_
                rotate_left
                · (intro w hSw; (try dsimp only at hSw); go_simp); all_goals with_reducible rfl
                try simp only [Act.put, List.setIfInBounds_toArray, List.set_cons_zero, List.set_cons_succ]
                refine wpAnyH_take (i := 36) (oi := { dst := some 122, op := _, type := _, pos := _, after := _, guard := _ }) (v := ?_) rfl (by kernel_rfl) (by kernel_rfl) (by kernel_rfl) (fun _ _ _ h => h) (Or.inl ⟨by rfl, ?_⟩) hHeld ?_
                rotate_left
                · (intro w hSw; (try dsimp only at hSw); go_simp); all_goals with_reducible rfl
                try simp only [Act.put, List.setIfInBounds_toArray, List.set_cons_zero, List.set_cons_succ]
                refine wpAnyH_take (i := 37) (oi := { dst := some 123, op := _, type := _, pos := _, after := _, guard := _ }) (v := ?_) rfl (by kernel_rfl) (by kernel_rfl) (by kernel_rfl) (fun _ _ _ h => h) (Or.inl ⟨by rfl, ?_⟩) hHeld ?_
                rotate_left
                · (intro w hSw; (try dsimp only at hSw); go_simp); all_goals with_reducible rfl
                try simp only [Act.put, List.setIfInBounds_toArray, List.set_cons_zero, List.set_cons_succ]
                refine wpAnyH_take (i := 38) (oi := { dst := some 124, op := _, type := _, pos := _, after := _, guard := _ }) (v := ?_) rfl (by kernel_rfl) (by kernel_rfl) (by kernel_rfl) (fun _ _ _ h => h) (Or.inl ⟨by rfl, ?_⟩) hHeld ?_
                rotate_left
                · (intro w hSw; (try dsimp only at hSw); go_simp); all_goals with_reducible rfl
                try simp only [Act.put, List.setIfInBounds_toArray, List.set_cons_zero, List.set_cons_succ]
                refine wpAnyH_take (i := 39) (oi := { dst := some 125, op := _, type := _, pos := _, after := _, guard := _ }) (v := ?_) rfl (by kernel_rfl) (by kernel_rfl) (by kernel_rfl) (fun _ _ _ h => h) (Or.inl ⟨by rfl, ?_⟩) hHeld ?_
                rotate_left
                · (intro w hSw; (try dsimp only at hSw); go_simp); all_goals with_reducible rfl
                try simp only [Act.put, List.setIfInBounds_toArray, List.set_cons_zero, List.set_cons_succ]
                refine wpAnyH_take (i := 40) (oi := { dst := some 126, op := _, type := _, pos := _, after := _, guard := _ }) (v := ?_) rfl (by kernel_rfl) (by kernel_rfl) (by kernel_rfl) (fun _ _ _ h => h) (Or.inl ⟨by rfl, ?_⟩) hHeld ?_
                rotate_left
                · (intro w hSw; (try dsimp only at hSw); go_simp); all_goals with_reducible rfl
                try simp only [Act.put, List.setIfInBounds_toArray, List.set_cons_zero, List.set_cons_succ]
                refine wpAnyH_take (i := 41) (oi := { dst := some 127, op := _, type := _, pos := _, after := _, guard := _ }) (v := ?_) rfl (by kernel_rfl) (by kernel_rfl) (by kernel_rfl) (fun _ _ _ h => h) (Or.inl ⟨by rfl, ?_⟩) hHeld ?_
                rotate_left
                · (intro w hSw; (try dsimp only at hSw); go_simp); all_goals with_reducible rfl
                try simp only [Act.put, List.setIfInBounds_toArray, List.set_cons_zero, List.set_cons_succ]
                refine wpAnyH_take (i := 42) (oi := { dst := some 128, op := _, type := _, pos := _, after := _, guard := _ }) (v := ?_) rfl (by kernel_rfl) (by kernel_rfl) (by kernel_rfl) (fun _ _ _ h => h) (Or.inl ⟨by rfl, ?_⟩) hHeld ?_
                rotate_left
                · (intro w hSw; (try dsimp only at hSw); go_simp); all_goals with_reducible rfl
                try simp only [Act.put, List.setIfInBounds_toArray, List.set_cons_zero, List.set_cons_succ]
                refine wpAnyH_take (i := 43) (oi := { dst := some 129, op := _, type := _, pos := _, after := _, guard := _ }) (v := ?_) rfl (by kernel_rfl) (by kernel_rfl) (by kernel_rfl) (fun _ _ _ h => h) (Or.inl ⟨by rfl, ?_⟩) hHeld ?_
                rotate_left
                · (intro w hSw; (try dsimp only at hSw); go_simp); all_goals with_reducible rfl
                try simp only [Act.put, List.setIfInBounds_toArray, List.set_cons_zero, List.set_cons_succ]
                refine wpAnyH_done (by kernel_rfl) ?_ _
                have hq : Below wr.heap.size wr wq1 := by (repeat (with_reducible (first | exact Below.refl _ _ | assumption | refine bl_alloc ?_ _ | refine bl_drew ?_ | refine bl_drewN ?_ _ | (refine bl_set ?_ ?_ _; (focus (first | (simp; done) | (simp; omega) | omega))) | refine bl_then ?_ (by assumption))))
                have hn5 := bl_then hn4 hq
                go_wp2_with fail
                go_roundw
                case rel => exact ⟨q + 1, by omega, by go_num, hn5⟩
                case measure => simp [intOf]; omega
              · go_wp2_with fail
                refine wp_region_held_drew (S := (fun W : World => W.cell? ⟨b6, off6 + k, none⟩ = some (.int .i64 (j : Int)) ∧ W.cell? ⟨b6, off6 + q, none⟩ = some (.int .i64 (i2 : Int)) ∧ W.cell? ⟨b5, off5 + j * 2, none⟩ = some (.int .i64 x.s) ∧ W.cell? ⟨b5, off5 + j * 2 + 1, none⟩ = some (.float .f64 x.p) ∧ W.cell? ⟨b5, off5 + i2 * 2, none⟩ = some (.int .i64 y.s) ∧ W.cell? ⟨b5, off5 + i2 * 2 + 1, none⟩ = some (.float .f64 y.p))) (by kernel_rfl) ⟨g1, g2, a1, a2, a3, a4⟩ (fun hHeld => ?_)
                refine wpAnyH_take (i := 0) (oi := { dst := some 86, op := _, type := _, pos := _, after := _, guard := _ }) (v := ?_) rfl (by kernel_rfl) (by kernel_rfl) (by kernel_rfl) (fun _ _ _ h => h) (Or.inl ⟨by rfl, ?_⟩) hHeld ?_
                rotate_left
                · (intro w hSw; (try dsimp only at hSw); go_simp); all_goals with_reducible rfl
                try simp only [Act.put, List.setIfInBounds_toArray, List.set_cons_zero, List.set_cons_succ]
                refine wpAnyH_take (i := 1) (oi := { dst := some 87, op := _, type := _, pos := _, after := _, guard := _ }) (v := ?_) rfl (by kernel_rfl) (by kernel_rfl) (by kernel_rfl) (fun _ _ _ h => h) (Or.inl ⟨by rfl, ?_⟩) hHeld ?_
                rotate_left
                · (intro w hSw; (try dsimp only at hSw); go_simp); all_goals with_reducible rfl
                try simp only [Act.put, List.setIfInBounds_toArray, List.set_cons_zero, List.set_cons_succ]
                refine wpAnyH_take (i := 2) (oi := { dst := some 88, op := _, type := _, pos := _, after := _, guard := _ }) (v := ?_) rfl (by kernel_rfl) (by kernel_rfl) (by kernel_rfl) (fun _ _ _ h => h) (Or.inl ⟨by rfl, ?_⟩) hHeld ?_
                rotate_left
                · (intro w hSw; (try dsimp only at hSw); go_simp); all_goals with_reducible rfl
                try simp only [Act.put, List.setIfInBounds_toArray, List.set_cons_zero, List.set_cons_succ]
                refine wpAnyH_take (i := 3) (oi := { dst := some 89, op := _, type := _, pos := _, after := _, guard := _ }) (v := ?_) rfl (by kernel_rfl) (by kernel_rfl) (by kernel_rfl) (fun _ _ _ h => h) (Or.inl ⟨by rfl, ?_⟩) hHeld ?_
                rotate_left
                · (intro w hSw; (try dsimp only at hSw); go_simp); all_goals with_reducible rfl
                try simp only [Act.put, List.setIfInBounds_toArray, List.set_cons_zero, List.set_cons_succ]
                refine wpAnyH_take (i := 4) (oi := { dst := some 90, op := _, type := _, pos := _, after := _, guard := _ }) (v := ?_) rfl (by kernel_rfl) (by kernel_rfl) (by kernel_rfl) (fun _ _ _ h => h) (Or.inl ⟨by rfl, ?_⟩) hHeld ?_
                rotate_left
                · (intro w hSw; (try dsimp only at hSw); go_simp); all_goals with_reducible rfl
                try simp only [Act.put, List.setIfInBounds_toArray, List.set_cons_zero, List.set_cons_succ]
                refine wpAnyH_take (i := 5) (oi := { dst := some 91, op := _, type := _, pos := _, after := _, guard := _ }) (v := ?_) rfl (by kernel_rfl) (by kernel_rfl) (by kernel_rfl) (fun _ _ _ h => h) (Or.inl ⟨by rfl, ?_⟩) hHeld ?_
                rotate_left
                · (intro w hSw; (try dsimp only at hSw); go_simp); all_goals with_reducible rfl
                try simp only [Act.put, List.setIfInBounds_toArray, List.set_cons_zero, List.set_cons_succ]
                refine wpAnyH_take (i := 6) (oi := { dst := some 92, op := _, type := _, pos := _, after := _, guard := _ }) (v := ?_) rfl (by kernel_rfl) (by kernel_rfl) (by kernel_rfl) (fun _ _ _ h => h) (Or.inl ⟨by rfl, ?_⟩) hHeld ?_
                rotate_left
                · (intro w hSw; (try dsimp only at hSw); go_simp); all_goals with_reducible rfl
                try simp only [Act.put, List.setIfInBounds_toArray, List.set_cons_zero, List.set_cons_succ]
                refine wpAnyH_take (i := 7) (oi := { dst := some 93, op := _, type := _, pos := _, after := _, guard := _ }) (v := ?_) rfl (by kernel_rfl) (by kernel_rfl) (by kernel_rfl) (fun _ _ _ h => h) (Or.inl ⟨by rfl, ?_⟩) hHeld ?_
                rotate_left
                · (intro w hSw; (try dsimp only at hSw); go_simp); all_goals with_reducible rfl
                try simp only [Act.put, List.setIfInBounds_toArray, List.set_cons_zero, List.set_cons_succ]
                refine wpAnyH_take (i := 8) (oi := { dst := some 94, op := _, type := _, pos := _, after := _, guard := _ }) (v := ?_) rfl (by kernel_rfl) (by kernel_rfl) (by kernel_rfl) (fun _ _ _ h => h) (Or.inl ⟨by rfl, ?_⟩) hHeld ?_
                rotate_left
                · (intro w hSw; (try dsimp only at hSw); go_simp); all_goals with_reducible rfl
                try simp only [Act.put, List.setIfInBounds_toArray, List.set_cons_zero, List.set_cons_succ]
                refine wpAnyH_take (i := 9) (oi := { dst := some 95, op := _, type := _, pos := _, after := _, guard := _ }) (v := ?_) rfl (by kernel_rfl) (by kernel_rfl) (by kernel_rfl) (fun _ _ _ h => h) (Or.inl ⟨by rfl, ?_⟩) hHeld ?_
                rotate_left
                · (intro w hSw; (try dsimp only at hSw); go_simp); all_goals with_reducible rfl
                try simp only [Act.put, List.setIfInBounds_toArray, List.set_cons_zero, List.set_cons_succ]
                refine wpAnyH_take (i := 10) (oi := { dst := some 96, op := _, type := _, pos := _, after := _, guard := _ }) (v := ?_) rfl (by kernel_rfl) (by kernel_rfl) (by kernel_rfl) (fun _ _ _ h => h) (Or.inl ⟨by rfl, ?_⟩) hHeld ?_
                rotate_left
                · (intro w hSw; (try dsimp only at hSw); go_simp); all_goals with_reducible rfl
                try simp only [Act.put, List.setIfInBounds_toArray, List.set_cons_zero, List.set_cons_succ]
                refine wpAnyH_take (i := 11) (oi := { dst := some 97, op := _, type := _, pos := _, after := _, guard := _ }) (v := ?_) rfl (by kernel_rfl) (by kernel_rfl) (by kernel_rfl) (fun _ _ _ h => h) (Or.inl ⟨by rfl, ?_⟩) hHeld ?_
                rotate_left
                · (intro w hSw; (try dsimp only at hSw); go_simp); all_goals with_reducible rfl
                try simp only [Act.put, List.setIfInBounds_toArray, List.set_cons_zero, List.set_cons_succ]
                refine wpAnyH_take (i := 12) (oi := { dst := some 98, op := _, type := _, pos := _, after := _, guard := _ }) (v := ?_) rfl (by kernel_rfl) (by kernel_rfl) (by kernel_rfl) (fun _ _ _ h => h) (Or.inl ⟨by rfl, ?_⟩) hHeld ?_
                rotate_left
                · (intro w hSw; (try dsimp only at hSw); go_simp); all_goals with_reducible rfl
                try simp only [Act.put, List.setIfInBounds_toArray, List.set_cons_zero, List.set_cons_succ]
                refine wpAnyH_take (i := 13) (oi := { dst := some 99, op := _, type := _, pos := _, after := _, guard := _ }) (v := ?_) rfl (by kernel_rfl) (by kernel_rfl) (by kernel_rfl) (fun _ _ _ h => h) (Or.inl ⟨by rfl, ?_⟩) hHeld ?_
                rotate_left
                · (intro w hSw; (try dsimp only at hSw); go_simp); all_goals with_reducible rfl
                try simp only [Act.put, List.setIfInBounds_toArray, List.set_cons_zero, List.set_cons_succ]
                refine wpAnyH_ready (rs := [14]) (by kernel_rfl) (by simp) (AllReadyH.cons (o := _) rfl (fun K hK => ?_) AllReadyH.nil)
                go_simp
                refine (G1.out _).mono ?_
                rintro e wq0 ⟨rfl, hq0⟩
                have g1_0 : wq0.cell? ⟨b6, off6 + k, none⟩ = some (.int .i64 (j : Int)) := (hq0.cell (by exact l6)).trans g1
                have g2_0 : wq0.cell? ⟨b6, off6 + q, none⟩ = some (.int .i64 (i2 : Int)) := (hq0.cell (by exact l6)).trans g2
                have a1_0 : wq0.cell? ⟨b5, off5 + j * 2, none⟩ = some (.int .i64 x.s) := (hq0.cell (by exact l5)).trans a1
                have a2_0 : wq0.cell? ⟨b5, off5 + j * 2 + 1, none⟩ = some (.float .f64 x.p) := (hq0.cell (by exact l5)).trans a2
                have a3_0 : wq0.cell? ⟨b5, off5 + i2 * 2, none⟩ = some (.int .i64 y.s) := (hq0.cell (by exact l5)).trans a3
                have a4_0 : wq0.cell? ⟨b5, off5 + i2 * 2 + 1, none⟩ = some (.float .f64 y.p) := (hq0.cell (by exact l5)).trans a4
                have l5_0 : b5 < wq0.heap.size := Nat.lt_of_lt_of_le l5 hq0.size
                have l6_0 : b6 < wq0.heap.size := Nat.lt_of_lt_of_le l6 hq0.size
                refine hK.out _ _ ⟨g1_0, g2_0, a1_0, a2_0, a3_0, a4_0⟩ (fun hHeld => ?_)
                clear hK K
                refine wpAnyH_take (i := 15) (oi := { dst := some 101, op := _, type := _, pos := _, after := _, guard := _ }) (v := ?_) rfl (by kernel_rfl) (by kernel_rfl) (by kernel_rfl) (fun _ _ _ h => h) (Or.inl ⟨by rfl, ?_⟩) hHeld ?_
                rotate_left
                · (intro w hSw; (try dsimp only at hSw); go_simp); all_goals with_reducible rfl
                try simp only [Act.put, List.setIfInBounds_toArray, List.set_cons_zero, List.set_cons_succ]
                refine wpAnyH_take (i := 16) (oi := { dst := some 102, op := _, type := _, pos := _, after := _, guard := _ }) (v := ?_) rfl (by kernel_rfl) (by kernel_rfl) (by kernel_rfl) (fun _ _ _ h => h) (Or.inl ⟨by rfl, ?_⟩) hHeld ?_
                rotate_left
                · (intro w hSw; (try dsimp only at hSw); go_simp); all_goals with_reducible rfl
                try simp only [Act.put, List.setIfInBounds_toArray, List.set_cons_zero, List.set_cons_succ]
                refine wpAnyH_take (i := 17) (oi := { dst := some 103, op := _, type := _, pos := _, after := _, guard := _ }) (v := ?_) rfl (by kernel_rfl) (by kernel_rfl) (by kernel_rfl) (fun _ _ _ h => h) (Or.inl ⟨by rfl, ?_⟩) hHeld ?_
                rotate_left
                · (intro w hSw; (try dsimp only at hSw); go_simp); all_goals with_reducible rfl
                try simp only [Act.put, List.setIfInBounds_toArray, List.set_cons_zero, List.set_cons_succ]
                refine wpAnyH_take (i := 18) (oi := { dst := some 104, op := _, type := _, pos := _, after := _, guard := _ }) (v := ?_) rfl (by kernel_rfl) (by kernel_rfl) (by kernel_rfl) (fun _ _ _ h => h) (Or.inl ⟨by rfl, ?_⟩) hHeld ?_
                rotate_left
                · (intro w hSw; (try dsimp only at hSw); go_simp); all_goals with_reducible rfl
                try simp only [Act.put, List.setIfInBounds_toArray, List.set_cons_zero, List.set_cons_succ]
                refine wpAnyH_take (i := 19) (oi := { dst := some 105, op := _, type := _, pos := _, after := _, guard := _ }) (v := ?_) rfl (by kernel_rfl) (by kernel_rfl) (by kernel_rfl) (fun _ _ _ h => h) (Or.inl ⟨by rfl, ?_⟩) hHeld ?_
                rotate_left
                · (intro w hSw; (try dsimp only at hSw); go_simp); all_goals with_reducible rfl
                try simp only [Act.put, List.setIfInBounds_toArray, List.set_cons_zero, List.set_cons_succ]
                refine wpAnyH_take (i := 20) (oi := { dst := some 106, op := _, type := _, pos := _, after := _, guard := _ }) (v := ?_) rfl (by kernel_rfl) (by kernel_rfl) (by kernel_rfl) (fun _ _ _ h => h) (Or.inl ⟨by rfl, ?_⟩) hHeld ?_
                rotate_left
                · (intro w hSw; (try dsimp only at hSw); go_simp); all_goals with_reducible rfl
                try simp only [Act.put, List.setIfInBounds_toArray, List.set_cons_zero, List.set_cons_succ]
                refine wpAnyH_take (i := 21) (oi := { dst := some 107, op := _, type := _, pos := _, after := _, guard := _ }) (v := ?_) rfl (by kernel_rfl) (by kernel_rfl) (by kernel_rfl) (fun _ _ _ h => h) (Or.inl ⟨by rfl, ?_⟩) hHeld ?_
                rotate_left
                · (intro w hSw; (try dsimp only at hSw); go_simp); all_goals with_reducible rfl
                try simp only [Act.put, List.setIfInBounds_toArray, List.set_cons_zero, List.set_cons_succ]
                refine wpAnyH_take (i := 22) (oi := { dst := some 108, op := _, type := _, pos := _, after := _, guard := _ }) (v := ?_) rfl (by kernel_rfl) (by kernel_rfl) (by kernel_rfl) (fun _ _ _ h => h) (Or.inl ⟨by rfl, ?_⟩) hHeld ?_
                rotate_left
                · (intro w hSw; (try dsimp only at hSw); go_simp); all_goals with_reducible rfl
                try simp only [Act.put, List.setIfInBounds_toArray, List.set_cons_zero, List.set_cons_succ]
                refine wpAnyH_take (i := 23) (oi := { dst := some 109, op := _, type := _, pos := _, after := _, guard := _ }) (v := ?_) rfl (by kernel_rfl) (by kernel_rfl) (by kernel_rfl) (fun _ _ _ h => h) (Or.inl ⟨by rfl, ?_⟩) hHeld ?_
                rotate_left
                · (intro w hSw; (try dsimp only at hSw); go_simp); all_goals with_reducible rfl
                try simp only [Act.put, List.setIfInBounds_toArray, List.set_cons_zero, List.set_cons_succ]
                refine wpAnyH_take (i := 24) (oi := { dst := some 110, op := _, type := _, pos := _, after := _, guard := _ }) (v := ?_) rfl (by kernel_rfl) (by kernel_rfl) (by kernel_rfl) (fun _ _ _ h => h) (Or.inl ⟨by rfl, ?_⟩) hHeld ?_
                rotate_left
                · (intro w hSw; (try dsimp only at hSw); go_simp); all_goals with_reducible rfl
                try simp only [Act.put, List.setIfInBounds_toArray, List.set_cons_zero, List.set_cons_succ]
                refine wpAnyH_take (i := 25) (oi := { dst := some 111, op := _, type := _, pos := _, after := _, guard := _ }) (v := ?_) rfl (by kernel_rfl) (by kernel_rfl) (by kernel_rfl) (fun _ _ _ h => h) (Or.inl ⟨by rfl, ?_⟩) hHeld ?_
                rotate_left
                · (intro w hSw; (try dsimp only at hSw); go_simp); all_goals with_reducible rfl
                try simp only [Act.put, List.setIfInBounds_toArray, List.set_cons_zero, List.set_cons_succ]
                refine wpAnyH_take (i := 26) (oi := { dst := some 112, op := _, type := _, pos := _, after := _, guard := _ }) (v := ?_) rfl (by kernel_rfl) (by kernel_rfl) (by kernel_rfl) (fun _ _ _ h => h) (Or.inl ⟨by rfl, ?_⟩) hHeld ?_
                rotate_left
                · (intro w hSw; (try dsimp only at hSw); go_simp); all_goals with_reducible rfl
                try simp only [Act.put, List.setIfInBounds_toArray, List.set_cons_zero, List.set_cons_succ]
                refine wpAnyH_take (i := 27) (oi := { dst := some 113, op := _, type := _, pos := _, after := _, guard := _ }) (v := ?_) rfl (by kernel_rfl) (by kernel_rfl) (by kernel_rfl) (fun _ _ _ h => h) (Or.inl ⟨by rfl, ?_⟩) hHeld ?_
                rotate_left
                · (intro w hSw; (try dsimp only at hSw); go_simp); all_goals with_reducible rfl
                try simp only [Act.put, List.setIfInBounds_toArray, List.set_cons_zero, List.set_cons_succ]
                refine wpAnyH_take (i := 28) (oi := { dst := some 114, op := _, type := _, pos := _, after := _, guard := _ }) (v := ?_) rfl (by kernel_rfl) (by kernel_rfl) (by kernel_rfl) (fun _ _ _ h => h) (Or.inl ⟨by rfl, ?_⟩) hHeld ?_
                rotate_left
                · (intro w hSw; (try dsimp only at hSw); go_simp); all_goals with_reducible rfl
                try simp only [Act.put, List.setIfInBounds_toArray, List.set_cons_zero, List.set_cons_succ]
                refine wpAnyH_take (i := 29) (oi := { dst := some 115, op := _, type := _, pos := _, after := _, guard := _ }) (v := ?_) rfl (by kernel_rfl) (by kernel_rfl) (by kernel_rfl) (fun _ _ _ h => h) (Or.inl ⟨by rfl, ?_⟩) hHeld ?_
                rotate_left
                · (intro w hSw; (try dsimp only at hSw); go_simp); all_goals with_reducible rfl
                try simp only [Act.put, List.setIfInBounds_toArray, List.set_cons_zero, List.set_cons_succ]
                refine wpAnyH_ready (rs := [30]) (by kernel_rfl) (by simp) (AllReadyH.cons (o := _) rfl (fun K hK => ?_) AllReadyH.nil)
                go_simp
                refine (G2.out _).mono ?_
                rintro e wq1 ⟨rfl, hq1⟩
                have g1_1 : wq1.cell? ⟨b6, off6 + k, none⟩ = some (.int .i64 (j : Int)) := (hq1.cell (by exact l6_0)).trans g1_0
                have g2_1 : wq1.cell? ⟨b6, off6 + q, none⟩ = some (.int .i64 (i2 : Int)) := (hq1.cell (by exact l6_0)).trans g2_0
                have a1_1 : wq1.cell? ⟨b5, off5 + j * 2, none⟩ = some (.int .i64 x.s) := (hq1.cell (by exact l5_0)).trans a1_0
                have a2_1 : wq1.cell? ⟨b5, off5 + j * 2 + 1, none⟩ = some (.float .f64 x.p) := (hq1.cell (by exact l5_0)).trans a2_0
                have a3_1 : wq1.cell? ⟨b5, off5 + i2 * 2, none⟩ = some (.int .i64 y.s) := (hq1.cell (by exact l5_0)).trans a3_0
                have a4_1 : wq1.cell? ⟨b5, off5 + i2 * 2 + 1, none⟩ = some (.float .f64 y.p) := (hq1.cell (by exact l5_0)).trans a4_0
                have l5_1 : b5 < wq1.heap.size := Nat.lt_of_lt_of_le l5_0 hq1.size
                have l6_1 : b6 < wq1.heap.size := Nat.lt_of_lt_of_le l6_0 hq1.size
                refine hK.out _ _ ⟨g1_1, g2_1, a1_1, a2_1, a3_1, a4_1⟩ (fun hHeld => ?_)
                clear hK K
                refine wpAnyH_take (i := 31) (oi := { dst := some 117, op := _, type := _, pos := _, after := _, guard := _ }) (v := ?_) rfl (by kernel_rfl) (by kernel_rfl) (by kernel_rfl) (fun _ _ _ h => h) (Or.inl ⟨by rfl, ?_⟩) hHeld ?_
                rotate_left
                · (intro w hSw; (try dsimp only at hSw); go_simp); all_goals with_reducible rfl
                try simp only [Act.put, List.setIfInBounds_toArray, List.set_cons_zero, List.set_cons_succ]
                refine wpAnyH_take (i := 32) (oi := { dst := some 118, op := _, type := _, pos := _, after := _, guard := _ }) (v := ?_) rfl (by kernel_rfl) (by kernel_rfl) (by kernel_rfl) (fun _ _ _ h => h) (Or.inl ⟨by rfl, ?_⟩) hHeld ?_
                rotate_left
                · (intro w hSw; (try dsimp only at hSw); go_simp); all_goals with_reducible rfl
                try simp only [Act.put, List.setIfInBounds_toArray, List.set_cons_zero, List.set_cons_succ]
                refine wpAnyH_take (i := 33) (oi := { dst := some 119, op := _, type := _, pos := _, after := _, guard := _ }) (v := undef) rfl (by kernel_rfl) (by kernel_rfl) (by kernel_rfl) (fun _ _ _ h => h) (Or.inr ⟨by rfl, rfl⟩) hHeld ?_
                try simp only [Act.put, List.setIfInBounds_toArray, List.set_cons_zero, List.set_cons_succ]
                refine wpAnyH_take (i := 34) (oi := { dst := some 120, op := _, type := _, pos := _, after := _, guard := _ }) (v := undef) rfl (by kernel_rfl) (by kernel_rfl) (by kernel_rfl) (fun _ _ _ h => h) (Or.inr ⟨by rfl, rfl⟩) hHeld ?_
                try simp only [Act.put, List.setIfInBounds_toArray, List.set_cons_zero, List.set_cons_succ]
                refine wpAnyH_take (i := 35) (oi := { dst := some 121, op := _, type := _, pos := _, after := _, guard := _ }) (v := undef) rfl (by kernel_rfl) (by kernel_rfl) (by kernel_rfl) (fun _ _ _ h => h) (Or.inr ⟨by rfl, rfl⟩) hHeld ?_
                try simp only [Act.put, List.setIfInBounds_toArray, List.set_cons_zero, List.set_cons_succ]
                refine wpAnyH_take (i := 36) (oi := { dst := some 122, op := _, type := _, pos := _, after := _, guard := _ }) (v := undef) rfl (by kernel_rfl) (by kernel_rfl) (by kernel_rfl) (fun _ _ _ h => h) (Or.inr ⟨by rfl, rfl⟩) hHeld ?_
                try simp only [Act.put, List.setIfInBounds_toArray, List.set_cons_zero, List.set_cons_succ]
                refine wpAnyH_take (i := 37) (oi := { dst := some 123, op := _, type := _, pos := _, after := _, guard := _ }) (v := undef) rfl (by kernel_rfl) (by kernel_rfl) (by kernel_rfl) (fun _ _ _ h => h) (Or.inr ⟨by rfl, rfl⟩) hHeld ?_
                try simp only [Act.put, List.setIfInBounds_toArray, List.set_cons_zero, List.set_cons_succ]
                refine wpAnyH_take (i := 38) (oi := { dst := some 124, op := _, type := _, pos := _, after := _, guard := _ }) (v := undef) rfl (by kernel_rfl) (by kernel_rfl) (by kernel_rfl) (fun _ _ _ h => h) (Or.inr ⟨by rfl, rfl⟩) hHeld ?_
                try simp only [Act.put, List.setIfInBounds_toArray, List.set_cons_zero, List.set_cons_succ]
                refine wpAnyH_take (i := 39) (oi := { dst := some 125, op := _, type := _, pos := _, after := _, guard := _ }) (v := undef) rfl (by kernel_rfl) (by kernel_rfl) (by kernel_rfl) (fun _ _ _ h => h) (Or.inr ⟨by rfl, rfl⟩) hHeld ?_
                try simp only [Act.put, List.setIfInBounds_toArray, List.set_cons_zero, List.set_cons_succ]
                refine wpAnyH_take (i := 40) (oi := { dst := some 126, op := _, type := _, pos := _, after := _, guard := _ }) (v := undef) rfl (by kernel_rfl) (by kernel_rfl) (by kernel_rfl) (fun _ _ _ h => h) (Or.inr ⟨by rfl, rfl⟩) hHeld ?_
                try simp only [Act.put, List.setIfInBounds_toArray, List.set_cons_zero, List.set_cons_succ]
                refine wpAnyH_take (i := 41) (oi := { dst := some 127, op := _, type := _, pos := _, after := _, guard := _ }) (v := undef) rfl (by kernel_rfl) (by kernel_rfl) (by kernel_rfl) (fun _ _ _ h => h) (Or.inr ⟨by rfl, rfl⟩) hHeld ?_
                try simp only [Act.put, List.setIfInBounds_toArray, List.set_cons_zero, List.set_cons_succ]
                refine wpAnyH_take (i := 42) (oi := { dst := some 128, op := _, type := _, pos := _, after := _, guard := _ }) (v := ?_) rfl (by kernel_rfl) (by kernel_rfl) (by kernel_rfl) (fun _ _ _ h => h) (Or.inl ⟨by rfl, ?_⟩) hHeld ?_
                rotate_left
                · (intro w hSw; (try dsimp only at hSw); go_simp); all_goals with_reducible rfl
                try simp only [Act.put, List.setIfInBounds_toArray, List.set_cons_zero, List.set_cons_succ]
                refine wpAnyH_take (i := 43) (oi := { dst := some 129, op := _, type := _, pos := _, after := _, guard := _ }) (v := ?_) rfl (by kernel_rfl) (by kernel_rfl) (by kernel_rfl) (fun _ _ _ h => h) (Or.inl ⟨by rfl, ?_⟩) hHeld ?_
                rotate_left
                · (intro w hSw; (try dsimp only at hSw); go_simp); all_goals with_reducible rfl
                try simp only [Act.put, List.setIfInBounds_toArray, List.set_cons_zero, List.set_cons_succ]
                refine wpAnyH_done (by kernel_rfl) ?_ _
                have hq : Below wr.heap.size wr wq1 := by (repeat (with_reducible (first | exact Below.refl _ _ | assumption | refine bl_alloc ?_ _ | refine bl_drew ?_ | refine bl_drewN ?_ _ | (refine bl_set ?_ ?_ _; (focus (first | (simp; done) | (simp; omega) | omega))) | refine bl_then ?_ (by assumption))))
                have hn5 := bl_then hn4 hq
                go_wp2_with fail
                go_roundw
                case rel => exact ⟨q + 1, by omega, by go_num, hn5⟩
                case measure => simp [intOf]; omega
            · have hqd : ¬ (q : Int) < (k : Int) := by omega
              go_wp2_with fail
              go_roundw
              case rel => exact ⟨k + 1, by omega, by go_num, kb_below hn4 HMB2.out, bl_then hk30 hn4⟩
              case measure => simp [intOf]; omega
        · obtain rfl : k = n := by omega
          have hB4 := bl_then B2 hn3
          obtain ⟨w4, hw4⟩ : ∃ w4 : World, w4 = wr := ⟨_, rfl⟩
          rw [← hw4] at hn3 hB4
          have hww : Below w4.heap.size w4 wr := hw4 ▸ Below.refl _ _
          clear hw4 HMB MB
          go_wp2_with fail
          go_loopw [11, 12, 13, 14, 130, 131, 132, 133, 134, 135, 136, 137, 138, 139, 140, 141, 142, 143, 144, 145, 146, 147, 148, 149, 150, 151, 152, 153, 154, 155, 156, 157, 158, 159, 160, 161, 162, 163, 164, 165, 166, 167, 168, 169, 170, 171, 172, 173, 174, 175, 176, 177, 178] (fun s11 _ _ _ _ _ _ _ _ _ _ _ _ _ _ _ _ _ _ _ _ _ _ _ _ _ _ _ _ _ _ _ _ _ _ _ _ _ _ _ _ _ _ _ _ _ _ _ _ _ _ _ _ wr => ∃ d : Nat, s11 = .int .i64 ((d : Int) + 2) ∧ d ≤ 31 ∧ Below w4.heap.size w4 wr) (fun s11 _ _ _ _ _ _ _ _ _ _ _ _ _ _ _ _ _ _ _ _ _ _ _ _ _ _ _ _ _ _ _ _ _ _ _ _ _ _ _ _ _ _ _ _ _ _ _ _ _ _ _ _ _ => 60 - (intOf s11).toNat)
          case atStart => exact ⟨0, rfl, by omega, hww⟩
          case round =>
            obtain ⟨d, rfl, hd31, hn4⟩ := hrel
            by_cases hlt3 : d + 2 < k
            · obtain ⟨b5, off5, rfl, hb5, hc5⟩ := HR5.out (by have := HN.out; omega)
              obtain ⟨x1, x2⟩ := hc5 d _ (mrAt_some (by have := HN.out; omega))
              obtain ⟨x3, x4⟩ := hc5 (d + 1) _ (mrAt_some (by have := HN.out; omega))
              obtain ⟨x5, x6⟩ := hc5 (d + 2) _ (mrAt_some (by have := HN.out; omega))
              have hBo := bl_then hn3 hn4
              have a1 := (hBo.cell (by exact hb5)).trans x1
              have a2 := (hBo.cell (by exact hb5)).trans x2
              have a3 := (hBo.cell (by exact hb5)).trans x3
              have a4 := (hBo.cell (by exact hb5)).trans x4
              have a5 := (hBo.cell (by exact hb5)).trans x5
              have a6 := (hBo.cell (by exact hb5)).trans x6
              have l5 : b5 < wr.heap.size := Nat.lt_of_lt_of_le hb5 hBo.size
              have p1 := HF.out.at d
              have p2 := HF.out.at (d + 1)
              have p3 := HF.out.at (d + 2)
              have G1 := Lib.hid (fun W => Better_any (mrAt ms d).s (mrAt ms d).p (mrAt ms d).s (mrAt ms d).p W p1 p1)
              rw [bet_self _ _ p1] at G1
              have G2 := Lib.hid (fun W => Better_any (mrAt ms d).s (mrAt ms d).p (mrAt ms (d + 1)).s (mrAt ms (d + 1)).p W p1 p2)
              have G3 := Lib.hid (fun W => Better_any (mrAt ms (d + 1)).s (mrAt ms (d + 1)).p (mrAt ms d).s (mrAt ms d).p W p2 p1)
              have G4 := Lib.hid (fun W => Better_any (mrAt ms (d + 1)).s (mrAt ms (d + 1)).p (mrAt ms (d + 2)).s (mrAt ms (d + 2)).p W p2 p3)
              have G5 := Lib.hid (fun W => Better_any (mrAt ms d).s (mrAt ms d).p (mrAt ms (d + 2)).s (mrAt ms (d + 2)).p W p1 p3)
              have F1 : betM (mrAt ms d).s (mrAt ms d).p (mrAt ms (d + 1)).s (mrAt ms (d + 1)).p = true → betM (mrAt ms (d + 1)).s (mrAt ms (d + 1)).p (mrAt ms d).s (mrAt ms d).p = false := bet_asym p1 p2
              have F2 : betM (mrAt ms d).s (mrAt ms d).p (mrAt ms (d + 1)).s (mrAt ms (d + 1)).p = true → betM (mrAt ms (d + 1)).s (mrAt ms (d + 1)).p (mrAt ms (d + 2)).s (mrAt ms (d + 2)).p = true → betM (mrAt ms d).s (mrAt ms d).p (mrAt ms (d + 2)).s (mrAt ms (d + 2)).p = true := bet_trans p1 p2 p3
              generalize betM (mrAt ms d).s (mrAt ms d).p (mrAt ms (d + 1)).s (mrAt ms (d + 1)).p = t1 at *
              generalize betM (mrAt ms (d + 1)).s (mrAt ms (d + 1)).p (mrAt ms d).s (mrAt ms d).p = t2 at *
              generalize betM (mrAt ms (d + 1)).s (mrAt ms (d + 1)).p (mrAt ms (d + 2)).s (mrAt ms (d + 2)).p = t3 at *
              generalize betM (mrAt ms d).s (mrAt ms d).p (mrAt ms (d + 2)).s (mrAt ms (d + 2)).p = t4 at *
              generalize mrAt ms d = x at *
              generalize mrAt ms (d + 1) = y at *
              generalize mrAt ms (d + 2) = z at *
              have HF1 := Lib.hid F1
              have HF2 := Lib.hid F2
              have r1 : IntKind.i64.wrap (d : Int) = (d : Int) := by rw [IntKind.wrap_i64]; omega
              have r2 : IntKind.i64.wrap ((d : Int) + 2 - 1) = (d : Int) + 1 := by rw [IntKind.wrap_i64]; omega
              have r3 : (0 : Int) ≤ (d : Int) + 1 := by omega
              have r4 : ((d : Int) + 1).toNat = d + 1 := by omega
              have r5 : (0 : Int) ≤ (d : Int) + 2 := by omega
              have r6 : ((d : Int) + 2).toNat = d + 2 := by omega
              have r7 : (d : Int) + 2 < (k : Int) := by omega
              have r8 : (d : Int) + 1 < (k : Int) := by omega
              have r9 : (d : Int) < (k : Int) := by omega
              clear x1 x2 x3 x4 x5 x6 hc5 p1 p2 p3 F1 F2 HR5 HR6
              go_upto_region 23 with fail
              go_cut [12, 13, 14] from 134 to 178 (fun s12 s13 s14 wx => ∃ ba bb bc : Nat, s12 = .pointer (some ⟨ba, 0, none⟩) ∧ s13 = .pointer (some ⟨bb, 0, none⟩) ∧ s14 = .pointer (some ⟨bc, 0, none⟩) ∧ wx.heap[ba]? = some (.cells #[.int .i64 x.s, .float .f64 x.p] 25) ∧ wx.heap[bb]? = some (.cells #[.int .i64 y.s, .float .f64 y.p] 25) ∧ wx.heap[bc]? = some (.cells #[.int .i64 z.s, .float .f64 z.p] 25) ∧ Below wr.heap.size wr wx)
              case first =>
                have HS := fun (W : World) (hW : Below wr.heap.size wr W) => (⟨(hW.cell (by exact l5)).trans a1, (hW.cell (by exact l5)).trans a2, (hW.cell (by exact l5)).trans a3, (hW.cell (by exact l5)).trans a4, (hW.cell (by exact l5)).trans a5, (hW.cell (by exact l5)).trans a6⟩ : (fun W : World => W.cell? ⟨b5, off5 + d * 2, none⟩ = some (.int .i64 x.s) ∧ W.cell? ⟨b5, off5 + d * 2 + 1, none⟩ = some (.float .f64 x.p) ∧ W.cell? ⟨b5, off5 + (d + 1) * 2, none⟩ = some (.int .i64 y.s) ∧ W.cell? ⟨b5, off5 + (d + 1) * 2 + 1, none⟩ = some (.float .f64 y.p) ∧ W.cell? ⟨b5, off5 + (d + 2) * 2, none⟩ = some (.int .i64 z.s) ∧ W.cell? ⟨b5, off5 + (d + 2) * 2 + 1, none⟩ = some (.float .f64 z.p)) W)
                refine wp_region_held_drew (S := (fun W : World => W.cell? ⟨b5, off5 + d * 2, none⟩ = some (.int .i64 x.s) ∧ W.cell? ⟨b5, off5 + d * 2 + 1, none⟩ = some (.float .f64 x.p) ∧ W.cell? ⟨b5, off5 + (d + 1) * 2, none⟩ = some (.int .i64 y.s) ∧ W.cell? ⟨b5, off5 + (d + 1) * 2 + 1, none⟩ = some (.float .f64 y.p) ∧ W.cell? ⟨b5, off5 + (d + 2) * 2, none⟩ = some (.int .i64 z.s) ∧ W.cell? ⟨b5, off5 + (d + 2) * 2 + 1, none⟩ = some (.float .f64 z.p))) (by kernel_rfl) (HS _ (bl_drew (Below.refl _ _))) (fun hHeld => ?_)
                refine wpAnyH_take (i := 0) (oi := { dst := some 136, op := _, type := _, pos := _, after := _, guard := _ }) (v := ?_) rfl (by kernel_rfl) (by kernel_rfl) (by kernel_rfl) (fun _ _ _ h => h) (Or.inl ⟨by rfl, ?_⟩) hHeld ?_
                rotate_left
                · (intro w hSw; (try dsimp only at hSw); go_simp); all_goals with_reducible rfl
                try simp only [Act.put, List.setIfInBounds_toArray, List.set_cons_zero, List.set_cons_succ]
                refine wpAnyH_take (i := 1) (oi := { dst := some 137, op := _, type := _, pos := _, after := _, guard := _ }) (v := ?_) rfl (by kernel_rfl) (by kernel_rfl) (by kernel_rfl) (fun _ _ _ h => h) (Or.inl ⟨by rfl, ?_⟩) hHeld ?_
                rotate_left
                · (intro w hSw; (try dsimp only at hSw); go_simp); all_goals with_reducible rfl
                try simp only [Act.put, List.setIfInBounds_toArray, List.set_cons_zero, List.set_cons_succ]
                refine wpAnyH_take (i := 2) (oi := { dst := some 138, op := _, type := _, pos := _, after := _, guard := _ }) (v := ?_) rfl (by kernel_rfl) (by kernel_rfl) (by kernel_rfl) (fun _ _ _ h => h) (Or.inl ⟨by rfl, ?_⟩) hHeld ?_
                rotate_left
                · (intro w hSw; (try dsimp only at hSw); go_simp); all_goals with_reducible rfl
                try simp only [Act.put, List.setIfInBounds_toArray, List.set_cons_zero, List.set_cons_succ]
                refine wpAnyH_take (i := 3) (oi := { dst := some 139, op := _, type := _, pos := _, after := _, guard := _ }) (v := ?_) rfl (by kernel_rfl) (by kernel_rfl) (by kernel_rfl) (fun _ _ _ h => h) (Or.inl ⟨by rfl, ?_⟩) hHeld ?_
                rotate_left
                · (intro w hSw; (try dsimp only at hSw); go_simp); all_goals with_reducible rfl
                try simp only [Act.put, List.setIfInBounds_toArray, List.set_cons_zero, List.set_cons_succ]
                refine wpAnyH_take (i := 4) (oi := { dst := some 140, op := _, type := _, pos := _, after := _, guard := _ }) (v := ?_) rfl (by kernel_rfl) (by kernel_rfl) (by kernel_rfl) (fun _ _ _ h => h) (Or.inl ⟨by rfl, ?_⟩) hHeld ?_
                rotate_left
                · (intro w hSw; (try dsimp only at hSw); go_simp); all_goals with_reducible rfl
                try simp only [Act.put, List.setIfInBounds_toArray, List.set_cons_zero, List.set_cons_succ]
                refine wpAnyH_take (i := 5) (oi := { dst := some 141, op := _, type := _, pos := _, after := _, guard := _ }) (v := ?_) rfl (by kernel_rfl) (by kernel_rfl) (by kernel_rfl) (fun _ _ _ h => h) (Or.inl ⟨by rfl, ?_⟩) hHeld ?_
                rotate_left
                · (intro w hSw; (try dsimp only at hSw); go_simp); all_goals with_reducible rfl
                try simp only [Act.put, List.setIfInBounds_toArray, List.set_cons_zero, List.set_cons_succ]
                refine wpAnyH_take (i := 6) (oi := { dst := some 142, op := _, type := _, pos := _, after := _, guard := _ }) (v := ?_) rfl (by kernel_rfl) (by kernel_rfl) (by kernel_rfl) (fun _ _ _ h => h) (Or.inl ⟨by rfl, ?_⟩) hHeld ?_
                rotate_left
                · (intro w hSw; (try dsimp only at hSw); go_simp); all_goals with_reducible rfl
                try simp only [Act.put, List.setIfInBounds_toArray, List.set_cons_zero, List.set_cons_succ]
                refine wpAnyH_take (i := 7) (oi := { dst := some 143, op := _, type := _, pos := _, after := _, guard := _ }) (v := ?_) rfl (by kernel_rfl) (by kernel_rfl) (by kernel_rfl) (fun _ _ _ h => h) (Or.inl ⟨by rfl, ?_⟩) hHeld ?_
                rotate_left
                · (intro w hSw; (try dsimp only at hSw); go_simp); all_goals with_reducible rfl
                try simp only [Act.put, List.setIfInBounds_toArray, List.set_cons_zero, List.set_cons_succ]
                refine wpAnyH_take (i := 8) (oi := { dst := some 144, op := _, type := _, pos := _, after := _, guard := _ }) (v := ?_) rfl (by kernel_rfl) (by kernel_rfl) (by kernel_rfl) (fun _ _ _ h => h) (Or.inl ⟨by rfl, ?_⟩) hHeld ?_
                rotate_left
                · (intro w hSw; (try dsimp only at hSw); go_simp); all_goals with_reducible rfl
                try simp only [Act.put, List.setIfInBounds_toArray, List.set_cons_zero, List.set_cons_succ]
                refine wpAnyH_take (i := 9) (oi := { dst := some 145, op := _, type := _, pos := _, after := _, guard := _ }) (v := ?_) rfl (by kernel_rfl) (by kernel_rfl) (by kernel_rfl) (fun _ _ _ h => h) (Or.inl ⟨by rfl, ?_⟩) hHeld ?_
                rotate_left
                · (intro w hSw; (try dsimp only at hSw); go_simp); all_goals with_reducible rfl
                try simp only [Act.put, List.setIfInBounds_toArray, List.set_cons_zero, List.set_cons_succ]
                refine wpAnyH_take (i := 10) (oi := { dst := some 146, op := _, type := _, pos := _, after := _, guard := _ }) (v := ?_) rfl (by kernel_rfl) (by kernel_rfl) (by kernel_rfl) (fun _ _ _ h => h) (Or.inl ⟨by rfl, ?_⟩) hHeld ?_
                rotate_left
                · (intro w hSw; (try dsimp only at hSw); go_simp); all_goals with_reducible rfl
                try simp only [Act.put, List.setIfInBounds_toArray, List.set_cons_zero, List.set_cons_succ]
                refine wpAnyH_take (i := 11) (oi := { dst := some 147, op := _, type := _, pos := _, after := _, guard := _ }) (v := ?_) rfl (by kernel_rfl) (by kernel_rfl) (by kernel_rfl) (fun _ _ _ h => h) (Or.inl ⟨by rfl, ?_⟩) hHeld ?_
                rotate_left
                · (intro w hSw; (try dsimp only at hSw); go_simp); all_goals with_reducible rfl
                try simp only [Act.put, List.setIfInBounds_toArray, List.set_cons_zero, List.set_cons_succ]
                refine wpAnyH_take (i := 12) (oi := { dst := some 148, op := _, type := _, pos := _, after := _, guard := _ }) (v := ?_) rfl (by kernel_rfl) (by kernel_rfl) (by kernel_rfl) (fun _ _ _ h => h) (Or.inl ⟨by rfl, ?_⟩) hHeld ?_
                rotate_left
                · (intro w hSw; (try dsimp only at hSw); go_simp); all_goals with_reducible rfl
                try simp only [Act.put, List.setIfInBounds_toArray, List.set_cons_zero, List.set_cons_succ]
                refine wpAnyH_take (i := 13) (oi := { dst := some 149, op := _, type := _, pos := _, after := _, guard := _ }) (v := ?_) rfl (by kernel_rfl) (by kernel_rfl) (by kernel_rfl) (fun _ _ _ h => h) (Or.inl ⟨by rfl, ?_⟩) hHeld ?_
                rotate_left
                · (intro w hSw; (try dsimp only at hSw); go_simp); all_goals with_reducible rfl
                try simp only [Act.put, List.setIfInBounds_toArray, List.set_cons_zero, List.set_cons_succ]
                refine wpAnyH_ready (rs := [14, 15, 16]) (by kernel_rfl) (by simp) (AllReadyH.cons (o := _) rfl (fun K hK => ?_) (AllReadyH.cons (o := _) rfl (fun K hK => ?_) (AllReadyH.cons (o := _) rfl (fun K hK => ?_) AllReadyH.nil)))
                · go_simp
                  refine hK.out _ _ (HS _ (by (repeat (with_reducible (first | exact Below.refl _ _ | assumption | refine bl_alloc ?_ _ | refine bl_drew ?_ | refine bl_drewN ?_ _ | (refine bl_set ?_ ?_ _; (focus (first | (simp; done) | (simp; omega) | omega))) | refine bl_then ?_ (by assumption)))))) (fun hHeld => ?_)
                  clear hK K hHeld
                  refine wpAnyH_ready (rs := [15, 16]) (by kernel_rfl) (by simp) (AllReadyH.cons (o := _) rfl (fun K hK => ?_) (AllReadyH.cons (o := _) rfl (fun K hK => ?_) AllReadyH.nil))
                  · go_simp
                    refine hK.out _ _ (HS _ (by (repeat (with_reducible (first | exact Below.refl _ _ | assumption | refine bl_alloc ?_ _ | refine bl_drew ?_ | refine bl_drewN ?_ _ | (refine bl_set ?_ ?_ _; (focus (first | (simp; done) | (simp; omega) | omega))) | refine bl_then ?_ (by assumption)))))) (fun hHeld => ?_)
                    clear hK K hHeld
                    refine wpAnyH_ready (rs := [16]) (by kernel_rfl) (by simp) (AllReadyH.cons (o := _) rfl (fun K hK => ?_) AllReadyH.nil)
                    · go_simp
                      refine hK.out _ _ (HS _ (by (repeat (with_reducible (first | exact Below.refl _ _ | assumption | refine bl_alloc ?_ _ | refine bl_drew ?_ | refine bl_drewN ?_ _ | (refine bl_set ?_ ?_ _; (focus (first | (simp; done) | (simp; omega) | omega))) | refine bl_then ?_ (by assumption)))))) (fun hHeld => ?_)
                      clear hK K hHeld
                      refine wpAnyH_ready (rs := [17]) (by kernel_rfl) (by simp) (AllReadyH.cons (o := _) rfl (fun K hK => ?_) AllReadyH.nil)
                      · go_simp
                        refine hK.out _ _ (HS _ (by (repeat (with_reducible (first | exact Below.refl _ _ | assumption | refine bl_alloc ?_ _ | refine bl_drew ?_ | refine bl_drewN ?_ _ | (refine bl_set ?_ ?_ _; (focus (first | (simp; done) | (simp; omega) | omega))) | refine bl_then ?_ (by assumption)))))) (fun hHeld => ?_)
                        clear hK K hHeld
                        refine wpAnyH_ready (rs := [18]) (by kernel_rfl) (by simp) (AllReadyH.cons (o := _) rfl (fun K hK => ?_) AllReadyH.nil)
                        · go_simp
                          refine hK.out _ _ (HS _ (by (repeat (with_reducible (first | exact Below.refl _ _ | assumption | refine bl_alloc ?_ _ | refine bl_drew ?_ | refine bl_drewN ?_ _ | (refine bl_set ?_ ?_ _; (focus (first | (simp; done) | (simp; omega) | omega))) | refine bl_then ?_ (by assumption)))))) (fun hHeld => ?_)
                          clear hK K hHeld
                          refine wpAnyH_ready (rs := [19]) (by kernel_rfl) (by simp) (AllReadyH.cons (o := _) rfl (fun K hK => ?_) AllReadyH.nil)
                          · go_simp
                            refine hK.out _ _ (HS _ (by (repeat (with_reducible (first | exact Below.refl _ _ | assumption | refine bl_alloc ?_ _ | refine bl_drew ?_ | refine bl_drewN ?_ _ | (refine bl_set ?_ ?_ _; (focus (first | (simp; done) | (simp; omega) | omega))) | refine bl_then ?_ (by assumption)))))) (fun hHeld => ?_)
                            clear hK K hHeld
                            refine wpAnyH_done (by kernel_rfl) ?_ _
                            (go_wp2; go_meet; (case rel => exact ⟨_, _, _, rfl, rfl, rfl, by (repeat (first | assumption | (apply kb_new; (focus (simp; done))) | apply kb_alloc | apply kb_drew)), by (repeat (first | assumption | (apply kb_new; (focus (simp; done))) | apply kb_alloc | apply kb_drew)), by (repeat (first | assumption | (apply kb_new; (focus (simp; done))) | apply kb_alloc | apply kb_drew)), by (repeat (with_reducible (first | exact Below.refl _ _ | assumption | refine bl_alloc ?_ _ | refine bl_drew ?_ | refine bl_drewN ?_ _ | (refine bl_set ?_ ?_ _; (focus (first | (simp; done) | (simp; omega) | omega))) | refine bl_then ?_ (by assumption))))⟩))
                  · go_simp
                    refine hK.out _ _ (HS _ (by (repeat (with_reducible (first | exact Below.refl _ _ | assumption | refine bl_alloc ?_ _ | refine bl_drew ?_ | refine bl_drewN ?_ _ | (refine bl_set ?_ ?_ _; (focus (first | (simp; done) | (simp; omega) | omega))) | refine bl_then ?_ (by assumption)))))) (fun hHeld => ?_)
                    clear hK K hHeld
                    refine wpAnyH_ready (rs := [15]) (by kernel_rfl) (by simp) (AllReadyH.cons (o := _) rfl (fun K hK => ?_) AllReadyH.nil)
                    · go_simp
                      refine hK.out _ _ (HS _ (by (repeat (with_reducible (first | exact Below.refl _ _ | assumption | refine bl_alloc ?_ _ | refine bl_drew ?_ | refine bl_drewN ?_ _ | (refine bl_set ?_ ?_ _; (focus (first | (simp; done) | (simp; omega) | omega))) | refine bl_then ?_ (by assumption)))))) (fun hHeld => ?_)
                      clear hK K hHeld
                      refine wpAnyH_ready (rs := [17]) (by kernel_rfl) (by simp) (AllReadyH.cons (o := _) rfl (fun K hK => ?_) AllReadyH.nil)
                      · go_simp
                        refine hK.out _ _ (HS _ (by (repeat (with_reducible (first | exact Below.refl _ _ | assumption | refine bl_alloc ?_ _ | refine bl_drew ?_ | refine bl_drewN ?_ _ | (refine bl_set ?_ ?_ _; (focus (first | (simp; done) | (simp; omega) | omega))) | refine bl_then ?_ (by assumption)))))) (fun hHeld => ?_)
                        clear hK K hHeld
                        refine wpAnyH_ready (rs := [18]) (by kernel_rfl) (by simp) (AllReadyH.cons (o := _) rfl (fun K hK => ?_) AllReadyH.nil)
                        · go_simp
                          refine hK.out _ _ (HS _ (by (repeat (with_reducible (first | exact Below.refl _ _ | assumption | refine bl_alloc ?_ _ | refine bl_drew ?_ | refine bl_drewN ?_ _ | (refine bl_set ?_ ?_ _; (focus (first | (simp; done) | (simp; omega) | omega))) | refine bl_then ?_ (by assumption)))))) (fun hHeld => ?_)
                          clear hK K hHeld
                          refine wpAnyH_ready (rs := [19]) (by kernel_rfl) (by simp) (AllReadyH.cons (o := _) rfl (fun K hK => ?_) AllReadyH.nil)
                          · go_simp
                            refine hK.out _ _ (HS _ (by (repeat (with_reducible (first | exact Below.refl _ _ | assumption | refine bl_alloc ?_ _ | refine bl_drew ?_ | refine bl_drewN ?_ _ | (refine bl_set ?_ ?_ _; (focus (first | (simp; done) | (simp; omega) | omega))) | refine bl_then ?_ (by assumption)))))) (fun hHeld => ?_)
                            clear hK K hHeld
                            refine wpAnyH_done (by kernel_rfl) ?_ _
                            (go_wp2; go_meet; (case rel => exact ⟨_, _, _, rfl, rfl, rfl, by (repeat (first | assumption | (apply kb_new; (focus (simp; done))) | apply kb_alloc | apply kb_drew)), by (repeat (first | assumption | (apply kb_new; (focus (simp; done))) | apply kb_alloc | apply kb_drew)), by (repeat (first | assumption | (apply kb_new; (focus (simp; done))) | apply kb_alloc | apply kb_drew)), by (repeat (with_reducible (first | exact Below.refl _ _ | assumption | refine bl_alloc ?_ _ | refine bl_drew ?_ | refine bl_drewN ?_ _ | (refine bl_set ?_ ?_ _; (focus (first | (simp; done) | (simp; omega) | omega))) | refine bl_then ?_ (by assumption))))⟩))
                · go_simp
                  refine hK.out _ _ (HS _ (by (repeat (with_reducible (first | exact Below.refl _ _ | assumption | refine bl_alloc ?_ _ | refine bl_drew ?_ | refine bl_drewN ?_ _ | (refine bl_set ?_ ?_ _; (focus (first | (simp; done) | (simp; omega) | omega))) | refine bl_then ?_ (by assumption)))))) (fun hHeld => ?_)
                  clear hK K hHeld
                  refine wpAnyH_ready (rs := [14, 16]) (by kernel_rfl) (by simp) (AllReadyH.cons (o := _) rfl (fun K hK => ?_) (AllReadyH.cons (o := _) rfl (fun K hK => ?_) AllReadyH.nil))
                  · go_simp
                    refine hK.out _ _ (HS _ (by (repeat (with_reducible (first | exact Below.refl _ _ | assumption | refine bl_alloc ?_ _ | refine bl_drew ?_ | refine bl_drewN ?_ _ | (refine bl_set ?_ ?_ _; (focus (first | (simp; done) | (simp; omega) | omega))) | refine bl_then ?_ (by assumption)))))) (fun hHeld => ?_)
                    clear hK K hHeld
                    refine wpAnyH_ready (rs := [16]) (by kernel_rfl) (by simp) (AllReadyH.cons (o := _) rfl (fun K hK => ?_) AllReadyH.nil)
                    · go_simp
                      refine hK.out _ _ (HS _ (by (repeat (with_reducible (first | exact Below.refl _ _ | assumption | refine bl_alloc ?_ _ | refine bl_drew ?_ | refine bl_drewN ?_ _ | (refine bl_set ?_ ?_ _; (focus (first | (simp; done) | (simp; omega) | omega))) | refine bl_then ?_ (by assumption)))))) (fun hHeld => ?_)
                      clear hK K hHeld
                      refine wpAnyH_ready (rs := [17]) (by kernel_rfl) (by simp) (AllReadyH.cons (o := _) rfl (fun K hK => ?_) AllReadyH.nil)
                      · go_simp
                        refine hK.out _ _ (HS _ (by (repeat (with_reducible (first | exact Below.refl _ _ | assumption | refine bl_alloc ?_ _ | refine bl_drew ?_ | refine bl_drewN ?_ _ | (refine bl_set ?_ ?_ _; (focus (first | (simp; done) | (simp; omega) | omega))) | refine bl_then ?_ (by assumption)))))) (fun hHeld => ?_)
                        clear hK K hHeld
                        refine wpAnyH_ready (rs := [18]) (by kernel_rfl) (by simp) (AllReadyH.cons (o := _) rfl (fun K hK => ?_) AllReadyH.nil)
                        · go_simp
                          refine hK.out _ _ (HS _ (by (repeat (with_reducible (first | exact Below.refl _ _ | assumption | refine bl_alloc ?_ _ | refine bl_drew ?_ | refine bl_drewN ?_ _ | (refine bl_set ?_ ?_ _; (focus (first | (simp; done) | (simp; omega) | omega))) | refine bl_then ?_ (by assumption)))))) (fun hHeld => ?_)
                          clear hK K hHeld
                          refine wpAnyH_ready (rs := [19]) (by kernel_rfl) (by simp) (AllReadyH.cons (o := _) rfl (fun K hK => ?_) AllReadyH.nil)
                          · go_simp
                            refine hK.out _ _ (HS _ (by (repeat (with_reducible (first | exact Below.refl _ _ | assumption | refine bl_alloc ?_ _ | refine bl_drew ?_ | refine bl_drewN ?_ _ | (refine bl_set ?_ ?_ _; (focus (first | (simp; done) | (simp; omega) | omega))) | refine bl_then ?_ (by assumption)))))) (fun hHeld => ?_)
                            clear hK K hHeld
                            refine wpAnyH_done (by kernel_rfl) ?_ _
                            (go_wp2; go_meet; (case rel => exact ⟨_, _, _, rfl, rfl, rfl, by (repeat (first | assumption | (apply kb_new; (focus (simp; done))) | apply kb_alloc | apply kb_drew)), by (repeat (first | assumption | (apply kb_new; (focus (simp; done))) | apply kb_alloc | apply kb_drew)), by (repeat (first | assumption | (apply kb_new; (focus (simp; done))) | apply kb_alloc | apply kb_drew)), by (repeat (with_reducible (first | exact Below.refl _ _ | assumption | refine bl_alloc ?_ _ | refine bl_drew ?_ | refine bl_drewN ?_ _ | (refine bl_set ?_ ?_ _; (focus (first | (simp; done) | (simp; omega) | omega))) | refine bl_then ?_ (by assumption))))⟩))
                  · go_simp
                    refine hK.out _ _ (HS _ (by (repeat (with_reducible (first | exact Below.refl _ _ | assumption | refine bl_alloc ?_ _ | refine bl_drew ?_ | refine bl_drewN ?_ _ | (refine bl_set ?_ ?_ _; (focus (first | (simp; done) | (simp; omega) | omega))) | refine bl_then ?_ (by assumption)))))) (fun hHeld => ?_)
                    clear hK K hHeld
                    refine wpAnyH_ready (rs := [14]) (by kernel_rfl) (by simp) (AllReadyH.cons (o := _) rfl (fun K hK => ?_) AllReadyH.nil)
                    · go_simp
                      refine hK.out _ _ (HS _ (by (repeat (with_reducible (first | exact Below.refl _ _ | assumption | refine bl_alloc ?_ _ | refine bl_drew ?_ | refine bl_drewN ?_ _ | (refine bl_set ?_ ?_ _; (focus (first | (simp; done) | (simp; omega) | omega))) | refine bl_then ?_ (by assumption)))))) (fun hHeld => ?_)
                      clear hK K hHeld
                      refine wpAnyH_ready (rs := [17]) (by kernel_rfl) (by simp) (AllReadyH.cons (o := _) rfl (fun K hK => ?_) AllReadyH.nil)
                      · go_simp
                        refine hK.out _ _ (HS _ (by (repeat (with_reducible (first | exact Below.refl _ _ | assumption | refine bl_alloc ?_ _ | refine bl_drew ?_ | refine bl_drewN ?_ _ | (refine bl_set ?_ ?_ _; (focus (first | (simp; done) | (simp; omega) | omega))) | refine bl_then ?_ (by assumption)))))) (fun hHeld => ?_)
                        clear hK K hHeld
                        refine wpAnyH_ready (rs := [18]) (by kernel_rfl) (by simp) (AllReadyH.cons (o := _) rfl (fun K hK => ?_) AllReadyH.nil)
                        · go_simp
                          refine hK.out _ _ (HS _ (by (repeat (with_reducible (first | exact Below.refl _ _ | assumption | refine bl_alloc ?_ _ | refine bl_drew ?_ | refine bl_drewN ?_ _ | (refine bl_set ?_ ?_ _; (focus (first | (simp; done) | (simp; omega) | omega))) | refine bl_then ?_ (by assumption)))))) (fun hHeld => ?_)
                          clear hK K hHeld
                          refine wpAnyH_ready (rs := [19]) (by kernel_rfl) (by simp) (AllReadyH.cons (o := _) rfl (fun K hK => ?_) AllReadyH.nil)
                          · go_simp
                            refine hK.out _ _ (HS _ (by (repeat (with_reducible (first | exact Below.refl _ _ | assumption | refine bl_alloc ?_ _ | refine bl_drew ?_ | refine bl_drewN ?_ _ | (refine bl_set ?_ ?_ _; (focus (first | (simp; done) | (simp; omega) | omega))) | refine bl_then ?_ (by assumption)))))) (fun hHeld => ?_)
                            clear hK K hHeld
                            refine wpAnyH_done (by kernel_rfl) ?_ _
                            (go_wp2; go_meet; (case rel => exact ⟨_, _, _, rfl, rfl, rfl, by (repeat (first | assumption | (apply kb_new; (focus (simp; done))) | apply kb_alloc | apply kb_drew)), by (repeat (first | assumption | (apply kb_new; (focus (simp; done))) | apply kb_alloc | apply kb_drew)), by (repeat (first | assumption | (apply kb_new; (focus (simp; done))) | apply kb_alloc | apply kb_drew)), by (repeat (with_reducible (first | exact Below.refl _ _ | assumption | refine bl_alloc ?_ _ | refine bl_drew ?_ | refine bl_drewN ?_ _ | (refine bl_set ?_ ?_ _; (focus (first | (simp; done) | (simp; omega) | omega))) | refine bl_then ?_ (by assumption))))⟩))
                · go_simp
                  refine hK.out _ _ (HS _ (by (repeat (with_reducible (first | exact Below.refl _ _ | assumption | refine bl_alloc ?_ _ | refine bl_drew ?_ | refine bl_drewN ?_ _ | (refine bl_set ?_ ?_ _; (focus (first | (simp; done) | (simp; omega) | omega))) | refine bl_then ?_ (by assumption)))))) (fun hHeld => ?_)
                  clear hK K hHeld
                  refine wpAnyH_ready (rs := [14, 15]) (by kernel_rfl) (by simp) (AllReadyH.cons (o := _) rfl (fun K hK => ?_) (AllReadyH.cons (o := _) rfl (fun K hK => ?_) AllReadyH.nil))
                  · go_simp
                    refine hK.out _ _ (HS _ (by (repeat (with_reducible (first | exact Below.refl _ _ | assumption | refine bl_alloc ?_ _ | refine bl_drew ?_ | refine bl_drewN ?_ _ | (refine bl_set ?_ ?_ _; (focus (first | (simp; done) | (simp; omega) | omega))) | refine bl_then ?_ (by assumption)))))) (fun hHeld => ?_)
                    clear hK K hHeld
                    refine wpAnyH_ready (rs := [15]) (by kernel_rfl) (by simp) (AllReadyH.cons (o := _) rfl (fun K hK => ?_) AllReadyH.nil)
                    · go_simp
                      refine hK.out _ _ (HS _ (by (repeat (with_reducible (first | exact Below.refl _ _ | assumption | refine bl_alloc ?_ _ | refine bl_drew ?_ | refine bl_drewN ?_ _ | (refine bl_set ?_ ?_ _; (focus (first | (simp; done) | (simp; omega) | omega))) | refine bl_then ?_ (by assumption)))))) (fun hHeld => ?_)
                      clear hK K hHeld
                      refine wpAnyH_ready (rs := [17]) (by kernel_rfl) (by simp) (AllReadyH.cons (o := _) rfl (fun K hK => ?_) AllReadyH.nil)
                      · go_simp
                        refine hK.out _ _ (HS _ (by (repeat (with_reducible (first | exact Below.refl _ _ | assumption | refine bl_alloc ?_ _ | refine bl_drew ?_ | refine bl_drewN ?_ _ | (refine bl_set ?_ ?_ _; (focus (first | (simp; done) | (simp; omega) | omega))) | refine bl_then ?_ (by assumption)))))) (fun hHeld => ?_)
                        clear hK K hHeld
                        refine wpAnyH_ready (rs := [18]) (by kernel_rfl) (by simp) (AllReadyH.cons (o := _) rfl (fun K hK => ?_) AllReadyH.nil)
                        · go_simp
                          refine hK.out _ _ (HS _ (by (repeat (with_reducible (first | exact Below.refl _ _ | assumption | refine bl_alloc ?_ _ | refine bl_drew ?_ | refine bl_drewN ?_ _ | (refine bl_set ?_ ?_ _; (focus (first | (simp; done) | (simp; omega) | omega))) | refine bl_then ?_ (by assumption)))))) (fun hHeld => ?_)
                          clear hK K hHeld
                          refine wpAnyH_ready (rs := [19]) (by kernel_rfl) (by simp) (AllReadyH.cons (o := _) rfl (fun K hK => ?_) AllReadyH.nil)
                          · go_simp
                            refine hK.out _ _ (HS _ (by (repeat (with_reducible (first | exact Below.refl _ _ | assumption | refine bl_alloc ?_ _ | refine bl_drew ?_ | refine bl_drewN ?_ _ | (refine bl_set ?_ ?_ _; (focus (first | (simp; done) | (simp; omega) | omega))) | refine bl_then ?_ (by assumption)))))) (fun hHeld => ?_)
                            clear hK K hHeld
                            refine wpAnyH_done (by kernel_rfl) ?_ _
                            (go_wp2; go_meet; (case rel => exact ⟨_, _, _, rfl, rfl, rfl, by (repeat (first | assumption | (apply kb_new; (focus (simp; done))) | apply kb_alloc | apply kb_drew)), by (repeat (first | assumption | (apply kb_new; (focus (simp; done))) | apply kb_alloc | apply kb_drew)), by (repeat (first | assumption | (apply kb_new; (focus (simp; done))) | apply kb_alloc | apply kb_drew)), by (repeat (with_reducible (first | exact Below.refl _ _ | assumption | refine bl_alloc ?_ _ | refine bl_drew ?_ | refine bl_drewN ?_ _ | (refine bl_set ?_ ?_ _; (focus (first | (simp; done) | (simp; omega) | omega))) | refine bl_then ?_ (by assumption))))⟩))
                  · go_simp
                    refine hK.out _ _ (HS _ (by (repeat (with_reducible (first | exact Below.refl _ _ | assumption | refine bl_alloc ?_ _ | refine bl_drew ?_ | refine bl_drewN ?_ _ | (refine bl_set ?_ ?_ _; (focus (first | (simp; done) | (simp; omega) | omega))) | refine bl_then ?_ (by assumption)))))) (fun hHeld => ?_)
                    clear hK K hHeld
                    refine wpAnyH_ready (rs := [14]) (by kernel_rfl) (by simp) (AllReadyH.cons (o := _) rfl (fun K hK => ?_) AllReadyH.nil)
                    · go_simp
                      refine hK.out _ _ (HS _ (by (repeat (with_reducible (first | exact Below.refl _ _ | assumption | refine bl_alloc ?_ _ | refine bl_drew ?_ | refine bl_drewN ?_ _ | (refine bl_set ?_ ?_ _; (focus (first | (simp; done) | (simp; omega) | omega))) | refine bl_then ?_ (by assumption)))))) (fun hHeld => ?_)
                      clear hK K hHeld
                      refine wpAnyH_ready (rs := [17]) (by kernel_rfl) (by simp) (AllReadyH.cons (o := _) rfl (fun K hK => ?_) AllReadyH.nil)
                      · go_simp
                        refine hK.out _ _ (HS _ (by (repeat (with_reducible (first | exact Below.refl _ _ | assumption | refine bl_alloc ?_ _ | refine bl_drew ?_ | refine bl_drewN ?_ _ | (refine bl_set ?_ ?_ _; (focus (first | (simp; done) | (simp; omega) | omega))) | refine bl_then ?_ (by assumption)))))) (fun hHeld => ?_)
                        clear hK K hHeld
                        refine wpAnyH_ready (rs := [18]) (by kernel_rfl) (by simp) (AllReadyH.cons (o := _) rfl (fun K hK => ?_) AllReadyH.nil)
                        · go_simp
                          refine hK.out _ _ (HS _ (by (repeat (with_reducible (first | exact Below.refl _ _ | assumption | refine bl_alloc ?_ _ | refine bl_drew ?_ | refine bl_drewN ?_ _ | (refine bl_set ?_ ?_ _; (focus (first | (simp; done) | (simp; omega) | omega))) | refine bl_then ?_ (by assumption)))))) (fun hHeld => ?_)
                          clear hK K hHeld
                          refine wpAnyH_ready (rs := [19]) (by kernel_rfl) (by simp) (AllReadyH.cons (o := _) rfl (fun K hK => ?_) AllReadyH.nil)
                          · go_simp
                            refine hK.out _ _ (HS _ (by (repeat (with_reducible (first | exact Below.refl _ _ | assumption | refine bl_alloc ?_ _ | refine bl_drew ?_ | refine bl_drewN ?_ _ | (refine bl_set ?_ ?_ _; (focus (first | (simp; done) | (simp; omega) | omega))) | refine bl_then ?_ (by assumption)))))) (fun hHeld => ?_)
                            clear hK K hHeld
                            refine wpAnyH_done (by kernel_rfl) ?_ _
                            (go_wp2; go_meet; (case rel => exact ⟨_, _, _, rfl, rfl, rfl, by (repeat (first | assumption | (apply kb_new; (focus (simp; done))) | apply kb_alloc | apply kb_drew)), by (repeat (first | assumption | (apply kb_new; (focus (simp; done))) | apply kb_alloc | apply kb_drew)), by (repeat (first | assumption | (apply kb_new; (focus (simp; done))) | apply kb_alloc | apply kb_drew)), by (repeat (with_reducible (first | exact Below.refl _ _ | assumption | refine bl_alloc ?_ _ | refine bl_drew ?_ | refine bl_drewN ?_ _ | (refine bl_set ?_ ?_ _; (focus (first | (simp; done) | (simp; omega) | omega))) | refine bl_then ?_ (by assumption))))⟩))
              case rest =>
                obtain ⟨ba, bb, bc, rfl, rfl, rfl, KA, KB, KC, hq⟩ := hcut
                have ka := kb_cell KA
                have kb := kb_cell KB
                have kc := kb_cell KC
                cases t1 <;> cases t2 <;> cases t3 <;> cases t4
                all_goals first
                  | exact absurd (HF1.out rfl) (by decide)
                  | exact absurd (HF2.out rfl rfl) (by decide)
                  | (go_wp2_with (first | (go_at_call 25; (with_reducible refine (G1.out _).mono ?_); rintro e wz ⟨rfl, hz⟩; have KA := kb_below hz KA; have KB := kb_below hz KB; have KC := kb_below hz KC; have ka := kb_cell KA; have kb := kb_cell KB; have kc := kb_cell KC; have hq := bl_then hq hz) | (go_at_call 25; (with_reducible refine (G2.out _).mono ?_); rintro e wz ⟨rfl, hz⟩; have KA := kb_below hz KA; have KB := kb_below hz KB; have KC := kb_below hz KC; have ka := kb_cell KA; have kb := kb_cell KB; have kc := kb_cell KC; have hq := bl_then hq hz) | (go_at_call 25; (with_reducible refine (G3.out _).mono ?_); rintro e wz ⟨rfl, hz⟩; have KA := kb_below hz KA; have KB := kb_below hz KB; have KC := kb_below hz KC; have ka := kb_cell KA; have kb := kb_cell KB; have kc := kb_cell KC; have hq := bl_then hq hz) | (go_at_call 25; (with_reducible refine (G4.out _).mono ?_); rintro e wz ⟨rfl, hz⟩; have KA := kb_below hz KA; have KB := kb_below hz KB; have KC := kb_below hz KC; have ka := kb_cell KA; have kb := kb_cell KB; have kc := kb_cell KC; have hq := bl_then hq hz) | (go_at_call 25; (with_reducible refine (G5.out _).mono ?_); rintro e wz ⟨rfl, hz⟩; have KA := kb_below hz KA; have KB := kb_below hz KB; have KC := kb_below hz KC; have ka := kb_cell KA; have kb := kb_cell KB; have kc := kb_cell KC; have hq := bl_then hq hz)); go_roundw; (case rel => exact ⟨d + 1, by go_num, by omega, bl_then hn4 hq⟩); (case measure => simp [intOf]; omega))
            · have hd2 : ¬ (d : Int) + 2 < (k : Int) := by omega
              go_wp2_with fail
              go_ret
              exact ⟨rfl, bl_then hB4 hn4⟩
end Go.Proofs.Ytockdfhejbbbeaa
