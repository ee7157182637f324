/- slices' stable sort: symMerge where one side is of one. -/
import Derived.Test.YtockdfhejbbbeaaSort2
namespace Go.Proofs.Ytockdfhejbbbeaa
open Go.RowKit Go.Proofs.Ytockdfhejbbbeaa.Sy BigFrame

/-- What symMerge is handed. -/
structure SymIn (lt : Nat → Nat → Bool) (N : Nat) (L R : List Nat) : Prop where
  sl : Srt lt L
  sr : Srt lt R
  lr : ∀ x ∈ L, ∀ y ∈ R, x < y
  nl : ∀ x ∈ L, x < N
  nr : ∀ y ∈ R, y < N
/-- What it leaves. -/
def SymOut (lt : Nat → Nat → Bool) (g : Nat) (P L R Q : List Nat) (rest : List Value) (w' : World) : Prop := ∃ M : List Nat, M.Perm (L ++ R) ∧ Srt lt M ∧ RowAt w' g (P ++ M ++ Q) rest
theorem insD_swp' (P S : List Nat) (x c : Nat) (Q : List Nat) {j : Nat} (hc : c < S.length) (hj : j = P.length + c) : swp (insD P S x c Q) j (j + 1) = insD P S x (c + 1) Q := by
  rw [(insD_split P S x c Q hc).1, (insD_split P S x c Q hc).2]
  have h : j = (P ++ S.take c).length := by rw [hj, List.length_append, List.length_take]; omega
  exact swp_near _ _ _ _ h (by omega)
theorem insD_y' (P S : List Nat) (x c : Nat) (Q : List Nat) {j : Nat} (hc : c < S.length) (hj : j = P.length + c + 1) : (insD P S x c Q).getD j 0 = S.getD c 0 := by
  have e : insD P S x c Q = (P ++ S.take c ++ [x]) ++ S.getD c 0 :: (S.drop (c + 1) ++ Q) := by rw [(insD_split P S x c Q hc).2]; simp
  rw [e]
  exact getD_mid _ _ _ (by rw [hj, List.length_append, List.length_append, List.length_take, List.length_singleton]; omega)
/-- One ahead of others: each of the others. -/
theorem insD_far (P S : List Nat) (x q : Nat) (Q : List Nat) {j : Nat} (hc : q < S.length) (hj : j = P.length + 1 + q) : (insD P S x 0 Q).getD j 0 = S.getD q 0 := by
  have d : S = S.take q ++ S.getD q 0 :: S.drop (q + 1) := by
    conv => lhs; rw [← List.take_append_drop q S, List.drop_eq_getElem_cons hc]
    rw [getD_at hc]
  have e : insD P S x 0 Q = (P ++ x :: S.take q) ++ S.getD q 0 :: (S.drop (q + 1) ++ Q) := by
    unfold insD
    conv => lhs; rw [List.take_zero, List.drop_zero, d]
    simp
  rw [e]
  exact getD_mid _ _ _ (by rw [hj, List.length_append, List.length_cons, List.length_take]; omega)
/-- One behind others: each of the others. -/
theorem insD_near (P S : List Nat) (x q : Nat) (Q : List Nat) {j : Nat} (hc : q < S.length) (hj : j = P.length + q) : (insD P S x S.length Q).getD j 0 = S.getD q 0 := by
  have d : S = S.take q ++ S.getD q 0 :: S.drop (q + 1) := by
    conv => lhs; rw [← List.take_append_drop q S, List.drop_eq_getElem_cons hc]
    rw [getD_at hc]
  have e : insD P S x S.length Q = (P ++ S.take q) ++ S.getD q 0 :: (S.drop (q + 1) ++ x :: Q) := by
    unfold insD
    rw [List.take_length, List.drop_length]
    conv => lhs; rw [d]
    simp
  rw [e]
  exact getD_mid _ _ _ (by rw [hj, List.length_append, List.length_take]; omega)
theorem one_out {lt : Nat → Nat → Bool} (O : Strict lt) {N : Nat} {R : List Nat} {x c : Nat} (hI : SymIn lt N [x] R) (hc : c ≤ R.length) (c1 : 0 < c → lt (R.getD (c - 1) 0) x = true) (c2 : c < R.length → lt (R.getD c 0) x = false) :
    (R.take c ++ x :: R.drop c).Perm ([x] ++ R) ∧ Srt lt (R.take c ++ x :: R.drop c) := by
  have hne : ∀ z ∈ R, x < z := fun z hz => hI.lr x (List.mem_singleton.2 rfl) z hz
  refine ⟨perm_lay' R x c, srt_lay O hI.sr hc (fun z hz e => by have := hne z hz; omega) (fun h => O.asym (c1 h)) (fun h => O.of_not (fun e => by have := hne _ (getD_mem h); omega) (c2 h))⟩
theorem two_out {lt : Nat → Nat → Bool} (O : Strict lt) {N : Nat} {L : List Nat} {y c : Nat} (hI : SymIn lt N L [y]) (hc : c ≤ L.length) (c1 : 0 < c → lt y (L.getD (c - 1) 0) = false) (c2 : c < L.length → lt y (L.getD c 0) = true) :
    (L.take c ++ y :: L.drop c).Perm (L ++ [y]) ∧ Srt lt (L.take c ++ y :: L.drop c) :=
  ⟨perm_lay L y c, srt_lay O hI.sl hc (fun z hz e => by have := hI.lr z hz y (List.mem_singleton.2 rfl); omega) c1 c2⟩

set_option maxRecDepth 100000 in
set_option maxHeartbeats 4000000 in
theorem sym_one (g cap lc : Nat) (cf : Nat → Nat → Int) (lt : Nat → Nat → Bool) (N : Nat) (J : World → Prop) (O : Strict lt) (C : Cmp 39 (capR lc) cf N g J) (hcl : ∀ x y, y < x → x < N → decide (cf x y < 0) = lt x y)
    (P R Q : List Nat) (x : Nat) (rest : List Value) (w : World) (hI : SymIn lt N [x] R) (hl : (P ++ ([x] ++ R) ++ Q).length ≤ 1000) (hr : RowAt w g (P ++ ([x] ++ R) ++ Q) rest) (hJ : J w) (len : Nat) (hlen : len = (P ++ ([x] ++ R) ++ Q).length) (a b : Nat) (ha : a = P.length) (hb : b = a + 1 + R.length) (h0 : 0 < R.length) :
    Calls Try.prog 53 #[.slice (some ⟨g, 0, none⟩) len cap, .int .i64 a, .int .i64 ((a : Int) + 1), .int .i64 b, .func (.func 39) #[] (capR lc)] w fun e w' => e = .returned (.tuple #[]) ∧ SymOut lt g P [x] R Q rest w' ∧ Only g w w' := by
  have HR := Lib.hid hr
  have HJ := Lib.hid hJ
  have HC := Lib.hid C
  have HCL := Lib.hid hcl
  have HI := Lib.hid hI
  have E1 := Lib.hid ha
  have E2 := Lib.hid hb
  have E3 := Lib.hid (show len = a + 1 + R.length + Q.length by rw [hlen]; simp; omega)
  have b1 : len ≤ 1000 := by omega
  have b2 : b ≤ len := by have := E3.out; omega
  have b3 : a + 1 < b := by omega
  clear hr hJ C hcl hI ha hb hl hlen
  unfold capR
  go_enter Try.func53, Try.ntmps53
  go_wp2
  go_loopw [10, 11, 12, 31, 32, 33, 34, 35, 36, 37, 38, 39, 40, 41, 42, 43, 44, 45, 46, 47, 48, 49, 50, 51, 52, 53] (fun s10 s11 _ _ _ _ _ _ _ _ _ _ _ _ _ _ _ _ _ _ _ _ _ _ _ _ wr => ∃ i j : Nat, s10 = .int .i64 i ∧ s11 = .int .i64 j ∧ a + 1 ≤ i ∧ i ≤ j ∧ j ≤ b ∧ Hid ((a + 1 < i → lt (R.getD (i - 1 - (a + 1)) 0) x = true) ∧ (j < b → lt (R.getD (j - (a + 1)) 0) x = false)) ∧ Hid (RowAt wr g (insD P R x 0 Q) rest) ∧ Hid (J wr) ∧ Only g w wr) (fun s10 s11 _ _ _ _ _ _ _ _ _ _ _ _ _ _ _ _ _ _ _ _ _ _ _ _ _ => (intOf s11).toNat - (intOf s10).toNat)
  case atStart =>
    refine ⟨a + 1, b, by rw [show ((a + 1 : Nat) : Int) = (a : Int) + 1 by omega], rfl, by omega, by omega, by omega, ⟨fun h => by omega, fun h => by omega⟩, ?_, HJ.out, Keep.refl _ _⟩
    have e : insD P R x 0 Q = P ++ ([x] ++ R) ++ Q := by unfold insD; rw [List.take_zero, List.drop_zero]; simp
    rw [e]
    exact HR.out
  case round =>
    obtain ⟨i, j, rfl, rfl, hi, hij, hjb, HB, HRow, HJ1, hnx⟩ := hrel
    by_cases hlt : i < j
    · have hltz : (i : Int) < (j : Int) := by omega
      go_wp2_with fail
      rw [show ((i : Int) + (j : Int)) / 2 = (((i + j) / 2 : Nat) : Int) by omega]
      obtain ⟨h, hh⟩ : ∃ h, (i + j) / 2 = h := ⟨_, rfl⟩
      have h1 : i ≤ h := by omega
      have h2 : h < j := by omega
      rw [hh]
      obtain ⟨q, hq⟩ : ∃ q, h = a + 1 + q := ⟨h - (a + 1), by omega⟩
      have hqR : q < R.length := by have := E2.out; omega
      have hll := insD_len P R x 0 Q
      have u1 : h < (insD P R x 0 Q).length := by rw [hll]; have := E1.out; omega
      have u2 : a < (insD P R x 0 Q).length := by omega
      have g1 := RowAt.cell HRow.out u1
      have g2 := RowAt.cell HRow.out u2
      rw [insD_far P R x q Q hqR (by have := E1.out; omega)] at g1
      rw [insD_x P R x 0 Q (by omega) (by have := E1.out; omega)] at g2
      have hyR : R.getD q 0 ∈ R := getD_mem hqR
      have hxy := HI.out.lr x (List.mem_singleton.2 rfl) _ hyR
      have hyN := HI.out.nr _ hyR
      obtain ⟨y, hy⟩ : ∃ y, R.getD q 0 = y := ⟨_, rfl⟩
      rw [hy] at g1 hxy hyN
      have HY := Lib.hid hy
      have HQ := Lib.hid hq
      have hgb : g < wr.heap.size := kb_lt HRow.out
      have HCC := fun W (hW : Below wr.heap.size wr W) => HC.out.call y x W hyN (by omega) (HC.out.bel HJ1.out hW)
      have HCC' := Lib.hid HCC
      have hcl := Lib.hid (HCL.out y x hxy hyN)
      have q3 : (h : Int) < (len : Int) := by omega
      have q4 : (a : Int) < (len : Int) := by omega
      clear hyR hqR hll u1 u2 hy hq hh HCC
      cases hlv : lt y x
      · have hc0 : decide (cf y x < 0) = false := by rw [hcl.out, hlv]
        (refine wp_region_below (by kernel_rfl) (by kernel_rfl) ?_; (repeat (first | go_big_quiet_skip | (go_big_quiet_want; first | (go_big_quiet_op; go_big_quiet_on) | (apply Exists.intro; refine ⟨fun W hW => ?_, ?_⟩; (focus (have g1_r := (hW.cell (by exact hgb)).trans g1; have g2_r := (hW.cell (by exact hgb)).trans g2; unfold Oper.quietAt; go_simp; first | exact rfl | exact ⟨rfl, rfl⟩ | (go_at_call 39; exact q_call hW (HCC'.out _ hW)))); go_big_quiet_on; simp only [Act.put, List.setIfInBounds_toArray, List.set_cons_succ, List.set_cons_zero])))); refine wpQuiet_nil ?_; intro w1 hb1; have hz1 := hb1.size)
        go_wp2_with fail
        go_roundw
        case rel => exact ⟨i, h, rfl, rfl, hi, h1, by omega, ⟨HB.out.1, fun _ => by rw [show h - (a + 1) = q by have := HQ.out; omega, HY.out]; exact hlv⟩, kb_below hb1 HRow.out, HC.out.bel HJ1.out hb1, hnx.then_below hb1⟩
        case measure => simp [intOf]; omega
      · have hc0 : decide (cf y x < 0) = true := by rw [hcl.out, hlv]
        (refine wp_region_below (by kernel_rfl) (by kernel_rfl) ?_; (repeat (first | go_big_quiet_skip | (go_big_quiet_want; first | (go_big_quiet_op; go_big_quiet_on) | (apply Exists.intro; refine ⟨fun W hW => ?_, ?_⟩; (focus (have g1_r := (hW.cell (by exact hgb)).trans g1; have g2_r := (hW.cell (by exact hgb)).trans g2; unfold Oper.quietAt; go_simp; first | exact rfl | exact ⟨rfl, rfl⟩ | (go_at_call 39; exact q_call hW (HCC'.out _ hW)))); go_big_quiet_on; simp only [Act.put, List.setIfInBounds_toArray, List.set_cons_succ, List.set_cons_zero])))); refine wpQuiet_nil ?_; intro w1 hb1; have hz1 := hb1.size)
        go_wp2_with fail
        go_roundw
        case rel => exact ⟨h + 1, j, by go_num, rfl, by omega, by omega, hjb, ⟨fun _ => by rw [show h + 1 - 1 - (a + 1) = q by have := HQ.out; omega, HY.out]; exact hlv, HB.out.2⟩, kb_below hb1 HRow.out, HC.out.bel HJ1.out hb1, hnx.then_below hb1⟩
        case measure => simp [intOf]; omega
    · obtain rfl : i = j := by omega
      obtain ⟨c, hc⟩ : ∃ c, i = a + 1 + c := ⟨i - (a + 1), by omega⟩
      have hcR : c ≤ R.length := by have := E2.out; omega
      have HO := Lib.hid (one_out O HI.out hcR (fun h => by have := HB.out.1 (by omega); rwa [show i - 1 - (a + 1) = c - 1 by omega] at this) (fun h => by have := HB.out.2 (by have := E2.out; omega); rwa [show i - (a + 1) = c by omega] at this))
      have HcR := Lib.hid hcR
      clear hcR HB
      subst hc
      rw [show ((a + 1 + c : Nat) : Int) = (a : Int) + 1 + c by omega]
      have hd : decide ((a : Int) + 1 + (c : Int) < (a : Int) + 1 + (c : Int)) = false := by simp
      go_wp2_with fail
      go_loopw [13, 55, 56, 57, 58, 59, 60, 61, 62, 63, 64, 65, 66, 67, 68, 69, 70, 71, 72, 73, 74, 75, 76] (fun s13 _ _ _ _ _ _ _ _ _ _ _ _ _ _ _ _ _ _ _ _ _ _ wr => ∃ d : Nat, s13 = .int .i64 ((a + d : Nat) : Int) ∧ d ≤ c ∧ Hid (RowAt wr g (insD P R x d Q) rest) ∧ Only g w wr) (fun s13 _ _ _ _ _ _ _ _ _ _ _ _ _ _ _ _ _ _ _ _ _ _ _ => c + a - (intOf s13).toNat)
      case atStart => exact ⟨0, by rw [Nat.add_zero], by omega, HRow.out, hnx⟩
      case round =>
        obtain ⟨d, rfl, hdc, HR2, hn2⟩ := hrel
        by_cases hd2 : d < c
        · have hdR : d < R.length := by have := HcR.out; omega
          have hll := insD_len P R x d Q
          have u1 : a + d < (insD P R x d Q).length := by rw [hll]; have := E1.out; omega
          have u2 : a + d + 1 < (insD P R x d Q).length := by rw [hll]; have := E1.out; omega
          have g1 := RowAt.cell HR2.out u1
          have g2 := RowAt.cell HR2.out u2
          have hw := RowAt.swp HR2.out u1 u2
          rw [insD_swp' P R x d Q hdR (by have := E1.out; omega)] at hw
          have HW := Lib.hid hw
          generalize (insD P R x d Q).getD (a + d) 0 = y1 at *
          generalize (insD P R x d Q).getD (a + d + 1) 0 = y2 at *
          have k3 := kb_frozen HR2.out
          have q5 : a + d + 1 < len := by have := E3.out; have := HcR.out; omega
          have q6 : a + d < a + c := by omega
          clear hw hll u1 u2 hdR
          obtain ⟨j, hj⟩ : ∃ j, a + d = j := ⟨_, rfl⟩
          have HJJ := Lib.hid hj
          rw [hj] at g1 g2 HW q5 q6 ⊢
          clear hj
          have q7 : (j : Int) < (a : Int) + c := by omega
          have q8 : (j : Int) < (a : Int) + 1 + c - 1 := by omega
          have r1 : IntKind.i64.wrap ((j : Int) + 1) = ((j + 1 : Nat) : Int) := by rw [IntKind.wrap_i64]; omega
          go_wp2_with fail
          go_region
          go_wp2
          go_roundw
          case rel => exact ⟨d + 1, by rw [← HJJ.out]; go_num, by omega, kb_drew HW.out, ((hn2.set (fun _ => rfl) _).set (fun _ => rfl) _).drew⟩
          case measure => simp [intOf]; omega
        · obtain rfl : d = c := by omega
          have q7 : ¬ ((a + d : Nat) : Int) < (a : Int) + 1 + d - 1 := by omega
          go_wp2_with fail
          exact bodyPost_ret (results_none rfl _ _ _) rfl ⟨rfl, ⟨_, HO.out.1, HO.out.2, HR2.out⟩, hn2⟩
end Go.Proofs.Ytockdfhejbbbeaa
