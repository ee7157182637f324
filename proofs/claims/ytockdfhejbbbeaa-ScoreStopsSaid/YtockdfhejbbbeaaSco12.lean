/- The walk of ScoreStops. -/
import Derived.Test.YtockdfhejbbbeaaSco11
namespace Go.Proofs.Ytockdfhejbbbeaa
open Go.RowKit Go.Proofs.Ytockdfhejbbbeaa.Pc Go.Proofs.Ytockdfhejbbbeaa.Sy BigFrame
attribute [local go_sem] run_store_float
set_option linter.unusedSimpArgs false
set_option linter.unusedVariables false

/-- What came in as ints. -/
def ZRow (w : World) (A : Option Addr) (zs : List Int) : Prop := 0 < zs.length → ∃ b off, A = some ⟨b, off, none⟩ ∧ b < w.heap.size ∧ ∀ i z, zs[i]? = some z → w.cell? ⟨b, off + i, none⟩ = some (.int .i64 z)
theorem up_le {s : Int} (h : okS s = true) : upS s (-5) ≤ s := by
  obtain ⟨h1, h2⟩ := okS_yes h
  unfold upS
  omega
theorem up_ge {s : Int} (h : okS s = true) : s ≤ upS s 1 := by
  obtain ⟨h1, h2⟩ := okS_yes h
  unfold upS
  omega

set_option maxRecDepth 100000 in
set_option maxHeartbeats 4000000 in
theorem ScoreStops_walk (n b : Int) (A : Option Addr) (cap : Nat) (zs : List Int) (w : World) (hb : b.toNat < 18446744073709551616) (hZ : ZRow w A zs) :
    Calls Try.prog 7 #[.int .i64 n, .int .u64 b, .slice A zs.length cap] w fun e w' => e = .returned (.bool true) ∧ Below w.heap.size w w' := by
  obtain ⟨s1, s2⟩ := pick_bd (x := n) (n := 2001) (by decide)
  have P1 := Lib.hid (fun W => Pick_any n 2001 W (by decide))
  have HZ := Lib.hid hZ
  clear hZ
  obtain ⟨len, hlen⟩ : ∃ len, zs.length = len := ⟨_, rfl⟩
  have HN := Lib.hid hlen
  rw [hlen]
  clear hlen
  generalize pickN n 2001 = s0 at *
  by_cases hlong : 300 < len
  · have hd : (300 : Int) < (len : Int) := by omega
    go_enter Try.func7, Try.ntmps7
    go_wp2_with fail
    refine (ScoreKnown_any _).mono ?_
    rintro e w1 ⟨rfl, b1⟩
    go_wp2_with fail
    go_ret
    exact ⟨rfl, b1⟩
  · have hd : ¬ (300 : Int) < (len : Int) := by omega
    go_enter Try.func7, Try.ntmps7
    go_wp2_with fail
    refine (ScoreKnown_any _).mono ?_
    rintro e w1 ⟨rfl, b1⟩
    go_wp2_with fail
    refine (P1.out _).mono ?_
    rintro e w1' ⟨rfl, rfl⟩
    go_wp2_with fail
    refine (of_any _ b _).mono ?_
    rintro e w2 ⟨rfl, b2⟩
    have HS0 := Lib.hid (show okS (s0 - 1000) = true from decide_eq_true (by omega))
    have HB0 := Lib.hid hb
    clear hb
    generalize b.toNat = p0 at *
    generalize s0 - 1000 = s' at *
    have B2 : Below w.heap.size w (w2.alloc (.cells #[.int .i64 s', .float .f64 p0] 25)) := by (repeat (with_reducible (first | exact Below.refl _ _ | assumption | refine bl_alloc ?_ _ | refine bl_drew ?_ | refine bl_drewN ?_ _ | (refine bl_set ?_ ?_ _; (focus (first | (simp; done) | (simp; omega) | omega))) | refine bl_then ?_ (by assumption))))
    have M2 := Lib.hid (kb_new (w := w2) rfl (.cells #[.int .i64 s', .float .f64 p0] 25))
    have hbm : w.heap.size ≤ w2.heap.size := (bl_then b1 b2).size
    go_wp2_with fail
    generalize w2.alloc (.cells #[.int .i64 s', .float .f64 p0] 25) = w3 at *
    obtain ⟨bm, hbm2⟩ : ∃ bm, w2.heap.size = bm := ⟨_, rfl⟩
    rw [hbm2] at M2 hbm ⊢
    clear hbm2 b2
    go_loopw [9, 10, 11, 22, 23, 24, 25, 26, 27, 28, 29, 30, 31, 32, 33, 34, 35, 36, 37, 38, 39, 40, 41, 42, 43, 44, 45, 46, 47, 48, 49, 50, 51, 52, 53, 54, 55, 56, 57, 58, 59, 60, 61, 62, 63, 64, 65, 66, 67, 68, 69, 70, 71, 72, 73, 74, 75, 76, 77, 78, 79, 80, 81, 82, 83] (fun s9 _ _ _ _ _ _ _ _ _ _ _ _ _ _ _ _ _ _ _ _ _ _ _ _ _ _ _ _ _ _ _ _ _ _ _ _ _ _ _ _ _ _ _ _ _ _ _ _ _ _ _ _ _ _ _ _ _ _ _ _ _ _ _ _ wr => ∃ (k : Nat) (s : Int) (p : Nat), k ≤ len ∧ s9 = .int .i64 k ∧ Hid (okS s = true) ∧ Hid (p < 18446744073709551616) ∧ Hid (wr.heap[bm]? = some (.cells #[.int .i64 s, .float .f64 p] 25)) ∧ Below w.heap.size w wr) (fun s9 _ _ _ _ _ _ _ _ _ _ _ _ _ _ _ _ _ _ _ _ _ _ _ _ _ _ _ _ _ _ _ _ _ _ _ _ _ _ _ _ _ _ _ _ _ _ _ _ _ _ _ _ _ _ _ _ _ _ _ _ _ _ _ _ _ => len - (intOf s9).toNat)
    case atStart => exact ⟨0, s', p0, by omega, rfl, HS0.out, HB0.out, M2.out, B2⟩
    case round =>
      obtain ⟨k, s, p, hk, rfl, HS, HP, HM, hnx⟩ := hrel
      by_cases hlt : k < len
      · obtain ⟨bz, off, rfl, hbz, hc⟩ := HZ.out (by have := HN.out; omega)
        obtain ⟨z, hz⟩ : ∃ z, zs[k]? = some z := ⟨_, List.getElem?_eq_getElem (by have := HN.out; omega)⟩
        have cz := (hnx.cell (by exact hbz)).trans (hc k z hz)
        have hbz' : bz < wr.heap.size := Nat.lt_of_lt_of_le hbz hnx.size
        have hne : bz ≠ bm := by omega
        have HC := Lib.hid hc
        have hml := kb_lt HM.out
        clear hc hz HZ
        have Mx := kb_alloc HM.out (.cells #[.int .i64 0, .float .f64 0] 25)
        have Xx := kb_new (w := wr) rfl (.cells #[.int .i64 0, .float .f64 0] 25)
        have km := kb_cell Mx
        have cz' := (Below.cell (bl_alloc (Below.refl _ wr) (.cells #[.int .i64 0, .float .f64 0] 25)) (p := ⟨bz, off + k, none⟩) hbz').trans cz
        by_cases hneg : z < 0
        · go_wp2_with fail
          refine (Bad_yes s p _ HS.out).mono ?_
          rintro e w4 ⟨r, rfl, _, hr, b4⟩
          have HR := Lib.hid hr
          have hup := Lib.hid (upS_ok s (-5))
          have hle := up_le HS.out
          generalize upS s (-5) = u at *
          have M4 := kb_below b4 Mx
          have X4 := kb_below b4 Xx
          have c4 := (b4.cell (by exact Nat.lt_of_lt_of_le hbz' (by simp))).trans cz'
          have kx := kb_cell X4
          have zx := kb_frozen X4
          have hbz4 : bz < w4.heap.size := Nat.lt_of_lt_of_le hbz' (Nat.le_trans (by simp) b4.size)
          clear km Mx Xx cz cz' hr
          have cf4 := (World.cell?_setCell_far _ ⟨wr.heap.size, 1, none⟩ ⟨bz, off + k, none⟩ (.float .f64 r) (by simp; omega)).trans ((World.cell?_setCell_far w4 ⟨wr.heap.size, 0, none⟩ ⟨bz, off + k, none⟩ (.int .i64 u) (by simp; omega)).trans c4)
          go_wp2_with fail
          refine (Check_yes u r _ hup.out).mono ?_
          rintro e w5 ⟨rfl, b5⟩
          have M5 := kb_below b5 (kb_far (kb_far M4 (by simp; omega) _) (by simp; omega) _)
          have X5 := kb_below b5 (kb_set (kb_set X4 _) _)
          have c5 := (b5.cell (by simpa using hbz4)).trans (cf4)
          have N5 : Below w.heap.size w w5 := by (repeat (with_reducible (first | exact Below.refl _ _ | assumption | refine bl_alloc ?_ _ | refine bl_drew ?_ | refine bl_drewN ?_ _ | (refine bl_set ?_ ?_ _; (focus (first | (simp; done) | (simp; omega) | omega))) | refine bl_then ?_ (by assumption))))
          have hzx := kb_frozen X5
          have hzm := kb_frozen M5
          have kx5 := kb_cell X5
          have km5 := kb_cell M5
          have M6 := Lib.hid (kb_set (i := 1) (kb_set (i := 0) M5 (.int .i64 u)) (.float .f64 r))
          clear kx zx c4 M4 X4 b4
          go_wp2_with fail
          go_roundw
          case rel => exact ⟨k + 1, u, r, by omega, by go_num, hup.out, HR.out, M6.out, by (repeat (with_reducible (first | exact Below.refl _ _ | assumption | refine bl_alloc ?_ _ | refine bl_drew ?_ | refine bl_drewN ?_ _ | (refine bl_set ?_ ?_ _; (focus (first | (simp; done) | (simp; omega) | omega))) | refine bl_then ?_ (by assumption))))⟩
          case measure => simp [intOf]; omega
        · have hpos : decide (z < 0) = false := decide_eq_false hneg
          have hpos' : ¬ z < 0 := hneg
          obtain ⟨t1, t2⟩ := pick_bd (x := z) (n := 1099511627777) (by decide)
          have P2 := Lib.hid (fun W => Pick_any z 1099511627777 W (by decide))
          generalize pickN z 1099511627777 = t at *
          have hg : okG s t = true := by unfold okG; rw [HS.out]; exact decide_eq_true (by omega)
          have HG := Lib.hid (fun W => Good_yes s p t W hg)
          have hup := Lib.hid (upS_ok s 1)
          have hle := up_ge HS.out
          generalize upS s 1 = u at *
          clear hg
          go_wp2_with fail
          obtain ⟨wa, hwa⟩ : ∃ wa : World, wa = wr.alloc (.cells #[.int .i64 0, .float .f64 0] 25) := ⟨_, rfl⟩
          have hba : Below wr.heap.size wr wa := by rw [hwa]; exact bl_alloc (Below.refl _ _) _
          have hsa : wr.heap.size < wa.heap.size := by rw [hwa]; simp
          rw [← hwa] at Mx Xx cz' ⊢
          clear hwa km
          have hbza : bz < wa.heap.size := by omega
          refine wp_region_held_drew (S := (fun W : World => W.cell? ⟨bm, 0, none⟩ = some (.int .i64 s) ∧ W.cell? ⟨bm, 1, none⟩ = some (.float .f64 p) ∧ W.cell? ⟨bz, off + k, none⟩ = some (.int .i64 z))) (by kernel_rfl) ⟨kb_cell (kb_drew Mx) 0, kb_cell (kb_drew Mx) 1, cz'⟩ (fun hHeld => ?_)
          refine wpAnyH_take (i := 0) (oi := { dst := some 39, op := _, type := _, pos := _, after := _, guard := _ }) (v := ?_) rfl (by kernel_rfl) (by kernel_rfl) (by kernel_rfl) (fun _ _ _ h => h) (Or.inl ⟨by rfl, ?_⟩) hHeld ?_
          rotate_left
          · (intro w hSw; (try dsimp only at hSw); go_simp); all_goals with_reducible rfl
          try simp only [Act.put, List.setIfInBounds_toArray, List.set_cons_zero, List.set_cons_succ]
          refine wpAnyH_take (i := 1) (oi := { dst := some 40, op := _, type := _, pos := _, after := _, guard := _ }) (v := ?_) rfl (by kernel_rfl) (by kernel_rfl) (by kernel_rfl) (fun _ _ _ h => h) (Or.inl ⟨by rfl, ?_⟩) hHeld ?_
          rotate_left
          · (intro w hSw; (try dsimp only at hSw); go_simp); all_goals with_reducible rfl
          try simp only [Act.put, List.setIfInBounds_toArray, List.set_cons_zero, List.set_cons_succ]
          refine wpAnyH_take (i := 2) (oi := { dst := some 41, op := _, type := _, pos := _, after := _, guard := _ }) (v := ?_) rfl (by kernel_rfl) (by kernel_rfl) (by kernel_rfl) (fun _ _ _ h => h) (Or.inl ⟨by rfl, ?_⟩) hHeld ?_
          rotate_left
          · (intro w hSw; (try dsimp only at hSw); go_simp); all_goals with_reducible rfl
          try simp only [Act.put, List.setIfInBounds_toArray, List.set_cons_zero, List.set_cons_succ]
          refine wpAnyH_take (i := 3) (oi := { dst := some 42, op := _, type := _, pos := _, after := _, guard := _ }) (v := ?_) rfl (by kernel_rfl) (by kernel_rfl) (by kernel_rfl) (fun _ _ _ h => h) (Or.inl ⟨by rfl, ?_⟩) hHeld ?_
          rotate_left
          · (intro w hSw; (try dsimp only at hSw); go_simp); all_goals with_reducible rfl
          try simp only [Act.put, List.setIfInBounds_toArray, List.set_cons_zero, List.set_cons_succ]
          refine wpAnyH_take (i := 4) (oi := { dst := some 43, op := _, type := _, pos := _, after := _, guard := _ }) (v := ?_) rfl (by kernel_rfl) (by kernel_rfl) (by kernel_rfl) (fun _ _ _ h => h) (Or.inl ⟨by rfl, ?_⟩) hHeld ?_
          rotate_left
          · (intro w hSw; (try dsimp only at hSw); go_simp); all_goals with_reducible rfl
          try simp only [Act.put, List.setIfInBounds_toArray, List.set_cons_zero, List.set_cons_succ]
          refine wpAnyH_ready (rs := [5]) (by kernel_rfl) (by simp) (AllReadyH.cons (o := _) rfl (fun K hK => ?_) AllReadyH.nil)
          go_simp
          refine (P2.out _).mono ?_
          rintro e w4' ⟨rfl, rfl⟩
          refine hK.out _ _ ⟨kb_cell (kb_drew Mx) 0, kb_cell (kb_drew Mx) 1, cz'⟩ (fun hHeld => ?_)
          clear hK K
          refine wpAnyH_ready (rs := [6]) (by kernel_rfl) (by simp) (AllReadyH.cons (o := _) rfl (fun K hK => ?_) AllReadyH.nil)
          go_simp
          refine (HG.out _).mono ?_
          rintro e w4 ⟨r, rfl, _, hr, b4⟩
          have HR := Lib.hid hr
          have M4 := kb_below b4 (kb_drew Mx)
          have X4 := kb_below b4 (kb_drew Xx)
          have c4 : w4.cell? ⟨bz, off + k, none⟩ = some (.int .i64 z) := (b4.cell (by exact hbza)).trans cz'
          have N4 : Below w.heap.size w w4 := by (repeat (with_reducible (first | exact Below.refl _ _ | assumption | refine bl_alloc ?_ _ | refine bl_drew ?_ | refine bl_drewN ?_ _ | (refine bl_set ?_ ?_ _; (focus (first | (simp; done) | (simp; omega) | omega))) | refine bl_then ?_ (by assumption))))
          have hbz4 : bz < w4.heap.size := Nat.lt_of_lt_of_le hbza b4.size
          clear hr
          refine hK.out _ _ ⟨kb_cell M4 0, kb_cell M4 1, c4⟩ (fun hHeld => ?_)
          clear hK K
          refine wpAnyH_take (i := 7) (oi := { dst := some 38, op := _, type := _, pos := _, after := _, guard := _ }) (v := ?_) rfl (by kernel_rfl) (by kernel_rfl) (by kernel_rfl) (fun _ _ _ h => h) (Or.inl ⟨by rfl, ?_⟩) hHeld ?_
          rotate_left
          · (intro w hSw; (try dsimp only at hSw); go_simp); all_goals with_reducible rfl
          try simp only [Act.put, List.setIfInBounds_toArray, List.set_cons_zero, List.set_cons_succ]
          refine wpAnyH_take (i := 8) (oi := { dst := some 46, op := _, type := _, pos := _, after := _, guard := _ }) (v := ?_) rfl (by kernel_rfl) (by kernel_rfl) (by kernel_rfl) (fun _ _ _ h => h) (Or.inl ⟨by rfl, ?_⟩) hHeld ?_
          rotate_left
          · (intro w hSw; (try dsimp only at hSw); go_simp); all_goals with_reducible rfl
          try simp only [Act.put, List.setIfInBounds_toArray, List.set_cons_zero, List.set_cons_succ]
          refine wpAnyH_take (i := 9) (oi := { dst := some 47, op := _, type := _, pos := _, after := _, guard := _ }) (v := ?_) rfl (by kernel_rfl) (by kernel_rfl) (by kernel_rfl) (fun _ _ _ h => h) (Or.inl ⟨by rfl, ?_⟩) hHeld ?_
          rotate_left
          · (intro w hSw; (try dsimp only at hSw); go_simp); all_goals with_reducible rfl
          try simp only [Act.put, List.setIfInBounds_toArray, List.set_cons_zero, List.set_cons_succ]
          have kx := kb_cell X4
          have zx := kb_frozen X4
          refine wpAnyH_ready (rs := [10]) (by kernel_rfl) (by simp) (AllReadyH.cons (o := _) rfl (fun K hK => ?_) AllReadyH.nil)
          go_simp
          have cf4 := (World.cell?_setCell_far _ ⟨wr.heap.size, 1, none⟩ ⟨bz, off + k, none⟩ (.float .f64 r) (by simp; omega)).trans ((World.cell?_setCell_far w4 ⟨wr.heap.size, 0, none⟩ ⟨bz, off + k, none⟩ (.int .i64 u) (by simp; omega)).trans c4)
          have MF := kb_far (p := ⟨wr.heap.size, 1, none⟩) (kb_far (p := ⟨wr.heap.size, 0, none⟩) M4 (by simp; omega) (.int .i64 u)) (by simp; omega) (.float .f64 r)
          refine hK.out _ _ ⟨kb_cell MF 0, kb_cell MF 1, cf4⟩ (fun hHeld => ?_)
          clear hK K
          refine wpAnyH_take (i := 11) (oi := { dst := some 11, op := _, type := _, pos := _, after := _, guard := _ }) (v := ?_) rfl (by kernel_rfl) (by kernel_rfl) (by kernel_rfl) (fun _ _ _ h => h) (Or.inl ⟨by rfl, ?_⟩) hHeld ?_
          rotate_left
          · (intro w hSw; (try dsimp only at hSw); go_simp); all_goals with_reducible rfl
          try simp only [Act.put, List.setIfInBounds_toArray, List.set_cons_zero, List.set_cons_succ]
          refine wpAnyH_done (by kernel_rfl) ?_ _
          clear MF hHeld hba
          go_wp2_with fail
          refine (Check_yes u r _ hup.out).mono ?_
          rintro e w5 ⟨rfl, b5⟩
          have M5 := kb_below b5 (kb_far (kb_far M4 (by simp; omega) _) (by simp; omega) _)
          have X5 := kb_below b5 (kb_set (kb_set X4 _) _)
          have c5 := (b5.cell (by simpa using hbz4)).trans (cf4)
          have N5 : Below w.heap.size w w5 := by (repeat (with_reducible (first | exact Below.refl _ _ | assumption | refine bl_alloc ?_ _ | refine bl_drew ?_ | refine bl_drewN ?_ _ | (refine bl_set ?_ ?_ _; (focus (first | (simp; done) | (simp; omega) | omega))) | refine bl_then ?_ (by assumption))))
          have hzx := kb_frozen X5
          have hzm := kb_frozen M5
          have kx5 := kb_cell X5
          have km5 := kb_cell M5
          have M6 := Lib.hid (kb_set (i := 1) (kb_set (i := 0) M5 (.int .i64 u)) (.float .f64 r))
          clear kx zx c4 M4 X4 b4
          go_wp2_with fail
          go_roundw
          case rel => exact ⟨k + 1, u, r, by omega, by go_num, hup.out, HR.out, M6.out, by (repeat (with_reducible (first | exact Below.refl _ _ | assumption | refine bl_alloc ?_ _ | refine bl_drew ?_ | refine bl_drewN ?_ _ | (refine bl_set ?_ ?_ _; (focus (first | (simp; done) | (simp; omega) | omega))) | refine bl_then ?_ (by assumption))))⟩
          case measure => simp [intOf]; omega
      · obtain rfl : k = len := by omega
        go_wp2_with fail
        go_ret
        exact ⟨rfl, hnx⟩
end Go.Proofs.Ytockdfhejbbbeaa
