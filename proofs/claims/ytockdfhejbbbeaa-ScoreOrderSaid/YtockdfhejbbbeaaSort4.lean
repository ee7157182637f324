/- slices' stable sort: symMerge where the second side is of one. -/
import Derived.Test.YtockdfhejbbbeaaSort3
namespace Go.Proofs.Ytockdfhejbbbeaa
open Go.RowKit Go.Proofs.Ytockdfhejbbbeaa.Sy BigFrame

set_option maxRecDepth 100000 in
set_option maxHeartbeats 4000000 in
theorem sym_two (g cap lc : Nat) (cf : Nat → Nat → Int) (lt : Nat → Nat → Bool) (N : Nat) (J : World → Prop) (O : Strict lt) (C : Cmp 39 (capR lc) cf N g J) (hcl : ∀ x y, y < x → x < N → decide (cf x y < 0) = lt x y)
    (P L Q : List Nat) (y : Nat) (rest : List Value) (w : World) (hI : SymIn lt N L [y]) (hl : (P ++ (L ++ [y]) ++ Q).length ≤ 1000) (hr : RowAt w g (P ++ (L ++ [y]) ++ Q) rest) (hJ : J w) (len : Nat) (hlen : len = (P ++ (L ++ [y]) ++ Q).length) (a m : Nat) (ha : a = P.length) (hm : m = a + L.length) (h0 : 1 < L.length) :
    Calls Try.prog 53 #[.slice (some ⟨g, 0, none⟩) len cap, .int .i64 a, .int .i64 m, .int .i64 ((m : Int) + 1), .func (.func 39) #[] (capR lc)] w fun e w' => e = .returned (.tuple #[]) ∧ SymOut lt g P L [y] Q rest w' ∧ Only g w w' := by
  have HR := Lib.hid hr
  have HJ := Lib.hid hJ
  have HC := Lib.hid C
  have HCL := Lib.hid hcl
  have HI := Lib.hid hI
  have E1 := Lib.hid ha
  have E2 := Lib.hid hm
  have E3 := Lib.hid (show len = a + L.length + 1 + Q.length by rw [hlen]; simp; omega)
  have b1 : len ≤ 1000 := by omega
  have b2 : m + 1 ≤ len := by have := E3.out; omega
  have b3 : a + 1 < m := by omega
  have b4 : ((m : Int) - (a : Int) == 1) = false := by simp; omega
  have b5 : ((m : Int) + 1 - (m : Int) == 1) = true := by simp; omega
  clear hr hJ C hcl hI ha hm hl hlen
  unfold capR
  go_enter Try.func53, Try.ntmps53
  go_wp2
  go_loopw [14, 15, 16, 83, 84, 85, 86, 87, 88, 89, 90, 91, 92, 93, 94, 95, 96, 97, 98, 99, 100, 101, 102, 103, 104, 105, 106] (fun s14 s15 _ _ _ _ _ _ _ _ _ _ _ _ _ _ _ _ _ _ _ _ _ _ _ _ _ wr => ∃ i j : Nat, s14 = .int .i64 i ∧ s15 = .int .i64 j ∧ a ≤ i ∧ i ≤ j ∧ j ≤ m ∧ Hid ((a < i → lt y (L.getD (i - 1 - a) 0) = false) ∧ (j < m → lt y (L.getD (j - a) 0) = true)) ∧ Hid (RowAt wr g (insD P L y L.length Q) rest) ∧ Hid (J wr) ∧ Only g w wr) (fun s14 s15 _ _ _ _ _ _ _ _ _ _ _ _ _ _ _ _ _ _ _ _ _ _ _ _ _ _ => (intOf s15).toNat - (intOf s14).toNat)
  case atStart =>
    refine ⟨a, m, rfl, rfl, by omega, by omega, by omega, ⟨fun h => by omega, fun h => by omega⟩, ?_, HJ.out, Keep.refl _ _⟩
    have e : insD P L y L.length Q = P ++ (L ++ [y]) ++ Q := by unfold insD; rw [List.take_length, List.drop_length]
    rw [e]
    exact HR.out
  case round =>
    obtain ⟨i, j, rfl, rfl, hi, hij, hjb, HB, HRow, HJ1, hnx⟩ := hrel
    by_cases hlt : i < j
    · have hltz : (i : Int) < (j : Int) := by omega
      go_wp2_with fail
      rw [show ((i : Int) + (j : Int)) / 2 = (((i + j) / 2 : Nat) : Int) by omega]
      obtain ⟨h, hh⟩ : ∃ h, (i + j) / 2 = h := ⟨_, rfl⟩
      have h1 : i ≤ h := by omega
      have h2 : h < j := by omega
      rw [hh]
      obtain ⟨q, hq⟩ : ∃ q, h = a + q := ⟨h - a, by omega⟩
      have hqL : q < L.length := by have := E2.out; omega
      have hll := insD_len P L y L.length Q
      have u1 : m < (insD P L y L.length Q).length := by rw [hll]; have := E1.out; have := E2.out; omega
      have u2 : h < (insD P L y L.length Q).length := by omega
      have g1 := RowAt.cell HRow.out u1
      have g2 := RowAt.cell HRow.out u2
      rw [insD_x P L y L.length Q (by omega) (by have := E1.out; have := E2.out; omega)] at g1
      rw [insD_near P L y q Q hqL (by have := E1.out; omega)] at g2
      have hyL : L.getD q 0 ∈ L := getD_mem hqL
      have hxy := HI.out.lr _ hyL y (List.mem_singleton.2 rfl)
      have hyN := HI.out.nr y (List.mem_singleton.2 rfl)
      obtain ⟨x, hx⟩ : ∃ x, L.getD q 0 = x := ⟨_, rfl⟩
      rw [hx] at g2 hxy
      have HX := Lib.hid hx
      have HQ := Lib.hid hq
      have hgb : g < wr.heap.size := kb_lt HRow.out
      have HCC := fun W (hW : Below wr.heap.size wr W) => HC.out.call y x W hyN (by omega) (HC.out.bel HJ1.out hW)
      have HCC' := Lib.hid HCC
      have hcl := Lib.hid (HCL.out y x hxy hyN)
      have q3 : (h : Int) < (len : Int) := by omega
      have q4 : (m : Int) < (len : Int) := by omega
      clear hyL hqL hll u1 u2 hx hq hh HCC
      cases hlv : lt y x
      · have hc0 : decide (cf y x < 0) = false := by rw [hcl.out, hlv]
        (refine wp_region_below (by kernel_rfl) (by kernel_rfl) ?_; (repeat (first | go_big_quiet_skip | (go_big_quiet_want; first | (go_big_quiet_op; go_big_quiet_on) | (apply Exists.intro; refine ⟨fun W hW => ?_, ?_⟩; (focus (have g1_r := (hW.cell (by exact hgb)).trans g1; have g2_r := (hW.cell (by exact hgb)).trans g2; unfold Oper.quietAt; go_simp; first | exact rfl | exact ⟨rfl, rfl⟩ | (go_at_call 39; exact q_call hW (HCC'.out _ hW)))); go_big_quiet_on; simp only [Act.put, List.setIfInBounds_toArray, List.set_cons_succ, List.set_cons_zero])))); refine wpQuiet_nil ?_; intro w1 hb1; have hz1 := hb1.size)
        go_wp2_with fail
        go_roundw
        case rel => exact ⟨h + 1, j, by go_num, rfl, by omega, by omega, hjb, ⟨fun _ => by rw [show h + 1 - 1 - a = q by have := HQ.out; omega, HX.out]; exact hlv, HB.out.2⟩, kb_below hb1 HRow.out, HC.out.bel HJ1.out hb1, hnx.then_below hb1⟩
        case measure => simp [intOf]; omega
      · have hc0 : decide (cf y x < 0) = true := by rw [hcl.out, hlv]
        (refine wp_region_below (by kernel_rfl) (by kernel_rfl) ?_; (repeat (first | go_big_quiet_skip | (go_big_quiet_want; first | (go_big_quiet_op; go_big_quiet_on) | (apply Exists.intro; refine ⟨fun W hW => ?_, ?_⟩; (focus (have g1_r := (hW.cell (by exact hgb)).trans g1; have g2_r := (hW.cell (by exact hgb)).trans g2; unfold Oper.quietAt; go_simp; first | exact rfl | exact ⟨rfl, rfl⟩ | (go_at_call 39; exact q_call hW (HCC'.out _ hW)))); go_big_quiet_on; simp only [Act.put, List.setIfInBounds_toArray, List.set_cons_succ, List.set_cons_zero])))); refine wpQuiet_nil ?_; intro w1 hb1; have hz1 := hb1.size)
        go_wp2_with fail
        go_roundw
        case rel => exact ⟨i, h, rfl, rfl, hi, h1, by omega, ⟨HB.out.1, fun _ => by rw [show h - a = q by have := HQ.out; omega, HX.out]; exact hlv⟩, kb_below hb1 HRow.out, HC.out.bel HJ1.out hb1, hnx.then_below hb1⟩
        case measure => simp [intOf]; omega
    · obtain rfl : i = j := by omega
      obtain ⟨c, hc⟩ : ∃ c, i = a + c := ⟨i - a, by omega⟩
      have hcL : c ≤ L.length := by have := E2.out; omega
      have HO := Lib.hid (two_out O HI.out hcL (fun h => by have := HB.out.1 (by omega); rwa [show i - 1 - a = c - 1 by omega] at this) (fun h => by have := HB.out.2 (by have := E2.out; omega); rwa [show i - a = c by omega] at this))
      have HcL := Lib.hid hcL
      clear hcL HB
      subst hc
      have hd : decide (((a + c : Nat) : Int) < ((a + c : Nat) : Int)) = false := by simp
      go_wp2_with fail
      go_loopw [17, 108, 109, 110, 111, 112, 113, 114, 115, 116, 117, 118, 119, 120, 121, 122, 123, 124, 125, 126, 127, 128] (fun s17 _ _ _ _ _ _ _ _ _ _ _ _ _ _ _ _ _ _ _ _ _ wr => ∃ d : Nat, s17 = .int .i64 ((a + d : Nat) : Int) ∧ c ≤ d ∧ d ≤ L.length ∧ Hid (RowAt wr g (insD P L y d Q) rest) ∧ Only g w wr) (fun s17 _ _ _ _ _ _ _ _ _ _ _ _ _ _ _ _ _ _ _ _ _ _ => (intOf s17).toNat)
      case atStart => exact ⟨L.length, by rw [← E2.out], HcL.out, Nat.le_refl _, HRow.out, hnx⟩
      case round =>
        obtain ⟨d, rfl, hdc, hdl, HR2, hn2⟩ := hrel
        by_cases hd2 : c < d
        · obtain ⟨d, rfl⟩ : ∃ d', d = d' + 1 := ⟨d - 1, by omega⟩
          have hdL : d < L.length := by omega
          have hll := insD_len P L y (d + 1) Q
          have u1 : a + d < (insD P L y (d + 1) Q).length := by rw [hll]; have := E1.out; omega
          have u2 : a + d + 1 < (insD P L y (d + 1) Q).length := by rw [hll]; have := E1.out; omega
          have g1 := RowAt.cell HR2.out u1
          have g2 := RowAt.cell HR2.out u2
          have hw := RowAt.swp HR2.out u2 u1
          rw [insD_swp P L y d Q hdL (by have := E1.out; omega)] at hw
          have HW := Lib.hid hw
          generalize (insD P L y (d + 1) Q).getD (a + d) 0 = y1 at *
          generalize (insD P L y (d + 1) Q).getD (a + d + 1) 0 = y2 at *
          have k3 := kb_frozen HR2.out
          have q5 : a + d + 1 < len := by have := E3.out; omega
          have q6 : a + c ≤ a + d := by omega
          clear hw hll u1 u2 hdL
          rw [show ((a + (d + 1) : Nat) : Int) = ((a + d : Nat) : Int) + 1 by omega]
          obtain ⟨j, hj⟩ : ∃ j, a + d = j := ⟨_, rfl⟩
          have HJJ := Lib.hid hj
          rw [hj] at g1 g2 HW q5 q6 ⊢
          clear hj
          have q7 : (a : Int) + c < (j : Int) + 1 := by omega
          have r1 : IntKind.i64.wrap (j : Int) = (j : Int) := by rw [IntKind.wrap_i64]; omega
          have r3 : (0 : Int) ≤ (j : Int) + 1 := by omega
          have r4 : ((j : Int) + 1).toNat = j + 1 := by omega
          have r5 : (j : Int) + 1 < (len : Int) := by omega
          have r6 : (j : Int) < (len : Int) := by omega
          go_wp2_with fail
          go_region
          go_wp2
          go_roundw
          case rel => exact ⟨d, by first | rfl | go_num | (rw [HJJ.out]), by omega, by omega, kb_drew HW.out, ((hn2.set (fun _ => rfl) _).set (fun _ => rfl) _).drew⟩
          case measure => simp [intOf]
        · obtain rfl : d = c := by omega
          go_wp2_with fail
          exact bodyPost_ret (results_none rfl _ _ _) rfl ⟨rfl, ⟨_, HO.out.1, HO.out.2, HR2.out⟩, hn2⟩
end Go.Proofs.Ytockdfhejbbbeaa
