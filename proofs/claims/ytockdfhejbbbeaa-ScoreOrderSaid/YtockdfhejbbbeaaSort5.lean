/- slices' stable sort: symMerge, the general step. -/
import Derived.Test.YtockdfhejbbbeaaSort4
import Derived.Deep.DeepCutAuto
namespace Go.Proofs.Ytockdfhejbbbeaa
open Go.RowKit Go.Proofs.Ytockdfhejbbbeaa.Sy BigFrame

/-- symMerge's contract, for at most k in all. -/
def SymC (g cap lc : Nat) (lt : Nat → Nat → Bool) (N : Nat) (J : World → Prop) (rest : List Value) (len k : Nat) : Prop :=
  ∀ (P L R Q : List Nat) (w : World) (a m b : Nat), L.length + R.length ≤ k → SymIn lt N L R → RowAt w g (P ++ (L ++ R) ++ Q) rest → J w → len = (P ++ (L ++ R) ++ Q).length → a = P.length → m = a + L.length → b = m + R.length → 0 < L.length → 0 < R.length →
    Calls Try.prog 53 #[.slice (some ⟨g, 0, none⟩) len cap, .int .i64 a, .int .i64 m, .int .i64 b, .func (.func 39) #[] (capR lc)] w fun e w' => e = .returned (.tuple #[]) ∧ SymOut lt g P L R Q rest w' ∧ Only g w w'

theorem SymIn.sub {lt : Nat → Nat → Bool} {N : Nat} {L R L' R' : List Nat} (h : SymIn lt N L R) (hl : L'.Sublist L) (hr : R'.Sublist R) : SymIn lt N L' R' :=
  ⟨h.sl.sublist hl, h.sr.sublist hr, fun x hx y hy => h.lr x (hl.subset hx) y (hr.subset hy), fun x hx => h.nl x (hl.subset hx), fun y hy => h.nr y (hr.subset hy)⟩
theorem getD_app2 (P L R Q : List Nat) {j q : Nat} (hq : q < L.length) (hj : j = P.length + q) : (P ++ (L ++ R) ++ Q).getD j 0 = L.getD q 0 := by
  subst hj
  simp only [List.getD]
  rw [List.getElem?_append_left (by simp; omega), List.getElem?_append_right (by omega), List.getElem?_append_left (by omega)]
  congr 2
  omega
theorem getD_app3 (P L R Q : List Nat) {j q : Nat} (hq : q < R.length) (hj : j = P.length + L.length + q) : (P ++ (L ++ R) ++ Q).getD j 0 = R.getD q 0 := by
  subst hj
  simp only [List.getD]
  rw [List.getElem?_append_left (by simp; omega), List.getElem?_append_right (by omega), List.getElem?_append_right (by omega)]
  congr 2
  omega

/-- Where the search for the cut stands. -/
structure Cut (lt : Nat → Nat → Bool) (L R : List Nat) (a m b mid st r0 s r : Nat) : Prop where
  f1 : a ≤ st
  f2 : mid + m ≤ st + b
  f3 : r0 ≤ m
  f4 : r0 ≤ mid
  f5 : st = a ∨ mid + m = st + b
  f6 : r0 = mid ∨ r0 = m
  g1 : st ≤ s
  g2 : s ≤ r
  g3 : r ≤ r0
  c1 : st < s → lt (R.getD (mid - s) 0) (L.getD (s - 1 - a) 0) = false
  c2 : r < r0 → lt (R.getD (mid - 1 - r) 0) (L.getD (r - a) 0) = true
theorem Cut.done {lt : Nat → Nat → Bool} {L R : List Nat} {N a m b mid st r0 s : Nat} (O : Strict lt) (hI : SymIn lt N L R) (h : Cut lt L R a m b mid st r0 s s) (hm : m = a + L.length) (hb : b = m + R.length) :
    ∀ x ∈ L.take (s - a) ++ R.take (mid - s), ∀ y ∈ L.drop (s - a) ++ R.drop (mid - s), lt x y = true := by
  obtain ⟨f1, f2, f3, f4, f5, f6, g1, g2, g3, c1, c2⟩ := h
  refine sym_cut O hI.sl hI.sr (fun x hx y hy e => by have := hI.lr x hx y hy; omega) (fun h1 h2 h3 => ?_) (fun h1 h2 h3 => ?_) (by omega) (by omega)
  · have := c1 (by omega)
    rwa [show s - 1 - a = s - a - 1 by omega] at this
  · have := c2 (by omega)
    rwa [show mid - 1 - s = mid - s - 1 by omega] at this

set_option maxRecDepth 100000 in
set_option maxHeartbeats 8000000 in
theorem sym_step (g cap lc : Nat) (cf : Nat → Nat → Int) (lt : Nat → Nat → Bool) (N : Nat) (J : World → Prop) (O : Strict lt) (C : Cmp 39 (capR lc) cf N g J) (hcl : ∀ x y, y < x → x < N → decide (cf x y < 0) = lt x y)
    (rest : List Value) (len k : Nat) (hlen1 : len ≤ 1000) (IH : SymC g cap lc lt N J rest len k) (P L R Q : List Nat) (w : World) (hI : SymIn lt N L R) (hr : RowAt w g (P ++ (L ++ R) ++ Q) rest) (hJ : J w) (hlen : len = (P ++ (L ++ R) ++ Q).length) (a m b : Nat) (ha : a = P.length) (hm : m = a + L.length) (hb : b = m + R.length) (hk : L.length + R.length = k + 1) (h0 : 1 < L.length) (h1 : 1 < R.length) :
    Calls Try.prog 53 #[.slice (some ⟨g, 0, none⟩) len cap, .int .i64 a, .int .i64 m, .int .i64 b, .func (.func 39) #[] (capR lc)] w fun e w' => e = .returned (.tuple #[]) ∧ SymOut lt g P L R Q rest w' ∧ Only g w w' := by
  have HR := Lib.hid hr
  have HJ := Lib.hid hJ
  have HC := Lib.hid C
  have HCL := Lib.hid hcl
  have HI := Lib.hid hI
  have HIH := Lib.hid IH
  have E1 := Lib.hid ha
  have E2 := Lib.hid hm
  have E4 := Lib.hid hb
  have E5 := Lib.hid hk
  have E6 := Lib.hid h0
  have E7 := Lib.hid h1
  have E3 := Lib.hid (show len = a + L.length + R.length + Q.length by rw [hlen]; simp; omega)
  have b2 : b ≤ len := by have := E3.out; omega
  have b3 : a + 1 < m := by omega
  have b3' : m + 1 < b := by omega
  have b4 : ((m : Int) - (a : Int) == 1) = false := by simp; omega
  have b5 : ((b : Int) - (m : Int) == 1) = false := by simp; omega
  clear hr hJ C hcl hI IH ha hm hb hk hlen h0 h1
  unfold capR
  go_enter Try.func53, Try.ntmps53
  go_upto_if 140 with fail
  obtain ⟨mid, hmid⟩ : ∃ mid, (a + b) / 2 = mid := ⟨_, rfl⟩
  rw [show ((a : Int) + (b : Int)) / 2 = ((mid : Nat) : Int) by omega]
  have m1 : a < mid := by omega
  have m2 : mid < b := by omega
  have HM := Lib.hid hmid
  clear hmid
  go_cut [20, 21] (fun s20 s21 wx => ∃ st r0 : Nat, s20 = .int .i64 st ∧ s21 = .int .i64 r0 ∧ Hid (Cut lt L R a m b mid st r0 st r0) ∧ wx = w)
  case first =>
    by_cases hc : mid < m
    · have hz : (mid : Int) < (m : Int) := by omega
      have q1 : (0 : Int) ≤ (mid : Int) + m - b := by have := HM.out; omega
      go_wp2_with fail
      go_meet
      case rel =>
        refine ⟨mid + m - b, mid, by rw [show ((mid + m - b : Nat) : Int) = (mid : Int) + m - b by have := HM.out; omega], rfl, ?_, rfl⟩
        have := HM.out
        exact ⟨by omega, by omega, by omega, by omega, .inr (by omega), .inl rfl, by omega, by omega, by omega, fun h => by omega, fun h => by omega⟩
    · have hz : ¬ (mid : Int) < (m : Int) := by omega
      go_wp2_with fail
      go_meet
      case rel =>
        refine ⟨a, m, rfl, rfl, ?_, rfl⟩
        have := HM.out
        exact ⟨by omega, by omega, by omega, by omega, .inl rfl, .inr rfl, by omega, by omega, by omega, fun h => by omega, fun h => by omega⟩
  case rest =>
    obtain ⟨st, r0, rfl, rfl, HCut0, hww⟩ := hcut
    subst wc
    go_wp2_with fail
    obtain ⟨pn, hpn⟩ : ∃ pn, mid + m - 1 = pn := ⟨_, rfl⟩
    rw [show (mid : Int) + (m : Int) - 1 = ((pn : Nat) : Int) by omega]
    have HP := Lib.hid hpn
    clear hpn
    go_loopw [20, 21, 23, 149, 150, 151, 152, 153, 154, 155, 156, 157, 158, 159, 160, 161, 162, 163, 164, 165, 166, 167, 168, 169, 170, 171, 172, 173, 174] (fun s20 s21 _ _ _ _ _ _ _ _ _ _ _ _ _ _ _ _ _ _ _ _ _ _ _ _ _ _ _ wr => ∃ s r : Nat, s20 = .int .i64 s ∧ s21 = .int .i64 r ∧ s ≤ r ∧ r ≤ m ∧ Hid (Cut lt L R a m b mid st r0 s r) ∧ Hid (RowAt wr g (P ++ (L ++ R) ++ Q) rest) ∧ Hid (J wr) ∧ Only g w wr) (fun s20 s21 _ _ _ _ _ _ _ _ _ _ _ _ _ _ _ _ _ _ _ _ _ _ _ _ _ _ _ _ => (intOf s21).toNat - (intOf s20).toNat)
    case atStart => exact ⟨st, r0, rfl, rfl, HCut0.out.g2, HCut0.out.f3, HCut0.out, HR.out, HJ.out, Keep.refl _ _⟩
    case round =>
      obtain ⟨s, r, rfl, rfl, hsr, hrm, HCt, HRow, HJ1, hnx⟩ := hrel
      by_cases hlt : s < r
      · as_aux_lemma =>
        have hltz : (s : Int) < (r : Int) := by omega
        go_wp2_with fail
        rw [show ((s : Int) + (r : Int)) / 2 = (((s + r) / 2 : Nat) : Int) by omega]
        obtain ⟨h, hh⟩ : ∃ h, (s + r) / 2 = h := ⟨_, rfl⟩
        have h1 : s ≤ h := by omega
        have h2 : h < r := by omega
        rw [hh]
        obtain ⟨f1, f2, f3, f4, f5, f6, g1, g2, g3, c1, c2⟩ := HCt.out
        have t1 : a ≤ h := by omega
        have t2 : h < m := by omega
        have t3 : h < mid := by omega
        have t4 : mid + m ≤ h + b := by omega
        have C1 := Lib.hid c1
        have C2 := Lib.hid c2
        have HG := Lib.hid (And.intro f5 f6)
        have hL : h - a < L.length := by have := E2.out; omega
        have hR : mid - 1 - h < R.length := by have := E4.out; omega
        have hxL := getD_mem hL
        have hyR := getD_mem hR
        have u0 : (P ++ (L ++ R) ++ Q).length = len := by rw [E3.out, E1.out]; simp; omega
        have u1 : pn - h < (P ++ (L ++ R) ++ Q).length := by have := HP.out; omega
        have u2 : h < (P ++ (L ++ R) ++ Q).length := by omega
        have k1 := RowAt.cell HRow.out u1
        have k2 := RowAt.cell HRow.out u2
        rw [getD_app3 P L R Q hR (by have := HP.out; have := E1.out; have := E2.out; omega)] at k1
        rw [getD_app2 P L R Q hL (by have := E1.out; omega)] at k2
        have hxy := HI.out.lr _ hxL _ hyR
        have hyN := HI.out.nr _ hyR
        obtain ⟨x, hx⟩ : ∃ x, L.getD (h - a) 0 = x := ⟨_, rfl⟩
        obtain ⟨y, hy⟩ : ∃ y, R.getD (mid - 1 - h) 0 = y := ⟨_, rfl⟩
        rw [hx] at k2
        rw [hy] at k1
        rw [hx, hy] at hxy
        rw [hy] at hyN
        have HX := Lib.hid hx
        have HY := Lib.hid hy
        have hgb : g < wr.heap.size := kb_lt HRow.out
        have HCC := fun W (hW : Below wr.heap.size wr W) => HC.out.call y x W hyN (by omega) (HC.out.bel HJ1.out hW)
        have HCC' := Lib.hid HCC
        have hcl := Lib.hid (HCL.out y x hxy hyN)
        have w1 : IntKind.i64.wrap ((pn : Int) - (h : Int)) = ((pn - h : Nat) : Int) := by rw [IntKind.wrap_i64]; have := HP.out; omega
        have q3 : pn - h < len := by omega
        have q4 : h < len := by omega
        clear hxL hyR hL hR u0 u1 u2 hx hy hh HCC c1 c2 f5 f6
        generalize pn - h = pq at *
        cases hlv : lt y x
        · have hc0 : decide (cf y x < 0) = false := by rw [hcl.out, hlv]
          (refine wp_region_below (by kernel_rfl) (by kernel_rfl) ?_; (repeat (first | go_big_quiet_skip | (go_big_quiet_want; first | (go_big_quiet_op; go_big_quiet_on) | (apply Exists.intro; refine ⟨fun W hW => ?_, ?_⟩; (focus (have k1_r := (hW.cell (by exact hgb)).trans k1; have k2_r := (hW.cell (by exact hgb)).trans k2; unfold Oper.quietAt; go_simp; first | exact rfl | exact ⟨rfl, rfl⟩ | (go_at_call 39; exact q_call hW (HCC'.out _ hW)))); go_big_quiet_on; simp only [Act.put, List.setIfInBounds_toArray, List.set_cons_succ, List.set_cons_zero])))); refine wpQuiet_nil ?_; intro w1 hb1; have hz1 := hb1.size)
          go_wp2_with fail
          go_roundw
          case rel => exact ⟨h + 1, r, by go_num, rfl, by omega, hrm, ⟨f1, f2, f3, f4, HG.out.1, HG.out.2, by omega, by omega, g3, fun _ => by rw [show mid - (h + 1) = mid - 1 - h by omega, show h + 1 - 1 - a = h - a by omega, HX.out, HY.out]; exact hlv, C2.out⟩, kb_below hb1 HRow.out, HC.out.bel HJ1.out hb1, hnx.then_below hb1⟩
          case measure => simp [intOf]; omega
        · have hc0 : decide (cf y x < 0) = true := by rw [hcl.out, hlv]
          (refine wp_region_below (by kernel_rfl) (by kernel_rfl) ?_; (repeat (first | go_big_quiet_skip | (go_big_quiet_want; first | (go_big_quiet_op; go_big_quiet_on) | (apply Exists.intro; refine ⟨fun W hW => ?_, ?_⟩; (focus (have k1_r := (hW.cell (by exact hgb)).trans k1; have k2_r := (hW.cell (by exact hgb)).trans k2; unfold Oper.quietAt; go_simp; first | exact rfl | exact ⟨rfl, rfl⟩ | (go_at_call 39; exact q_call hW (HCC'.out _ hW)))); go_big_quiet_on; simp only [Act.put, List.setIfInBounds_toArray, List.set_cons_succ, List.set_cons_zero])))); refine wpQuiet_nil ?_; intro w1 hb1; have hz1 := hb1.size)
          go_wp2_with fail
          go_roundw
          case rel => exact ⟨s, h, rfl, rfl, h1, by omega, ⟨f1, f2, f3, f4, HG.out.1, HG.out.2, g1, h1, by omega, C1.out, fun _ => by rw [HX.out, HY.out]; exact hlv⟩, kb_below hb1 HRow.out, HC.out.bel HJ1.out hb1, hnx.then_below hb1⟩
          case measure => simp [intOf]; omega
      · as_aux_lemma =>
        obtain rfl : s = r := by omega
        have hd : decide ((s : Int) < (s : Int)) = false := by simp
        have F3 := HCt.out.f3
        have F4 := HCt.out.f4
        have F1 := HCt.out.f1
        have G1 := HCt.out.g1
        have G3 := HCt.out.g3
        have q1 : a ≤ s := by omega
        have q2 : s ≤ mid := by have := HCt.out.f4; omega
        have q6 : mid + m ≤ s + b := by have := HCt.out.f2; omega
        clear F3 F4 F1 G1 G3
        obtain ⟨en, hen⟩ : ∃ en, mid + m - s = en := ⟨_, rfl⟩
        have HEN := Lib.hid hen
        have q5 : en ≤ b := by omega
        clear hen
        go_upto_region 39 with fail
        rw [show (mid : Int) + (m : Int) - (s : Int) = ((en : Nat) : Int) by have := HEN.out; omega]
        go_cut [185] (fun s185 wx => s185 = .bool (decide (s < m ∧ m < en)) ∧ wx = wr)
        case first =>
          by_cases hc1 : s < m
          · have hz : (s : Int) < (m : Int) := by omega
            have e : decide (s < m ∧ m < en) = decide (m < en) := by rw [decide_eq_decide]; omega
            have HE := Lib.hid e
            clear e
            go_wp2_with fail
            go_meet
            case rel => exact ⟨congrArg Value.bool HE.out.symm, rfl⟩
          · have hz : decide ((s : Int) < (m : Int)) = false := decide_eq_false (by omega)
            have e : decide (s < m ∧ m < en) = false := decide_eq_false (by omega)
            have HE := Lib.hid e
            clear e
            go_wp2_with fail
            go_meet
            case rel => exact ⟨congrArg Value.bool HE.out.symm, rfl⟩
        case rest =>
          obtain ⟨rfl, hww⟩ := hcut
          subst wc
          go_upto_if 185 with fail
          have l1 : (L.take (s - a)).length = s - a := by rw [List.length_take]; have := E2.out; omega
          have l2 : (L.drop (s - a)).length = m - s := by rw [List.length_drop]; have := E2.out; omega
          have l3 : (R.take (mid - s)).length = mid - s := by rw [List.length_take]; have := E4.out; omega
          have l4 : (R.drop (mid - s)).length = b - en := by rw [List.length_drop]; have := E4.out; have := HEN.out; omega
          have el : L.take (s - a) ++ L.drop (s - a) = L := List.take_append_drop _ _
          have er : R.take (mid - s) ++ R.drop (mid - s) = R := List.take_append_drop _ _
          have HALL := Lib.hid (Cut.done O HI.out HCt.out E2.out E4.out)
          have HS1 := Lib.hid (HI.out.sub (List.take_sublist (s - a) L) (List.take_sublist (mid - s) R))
          have HS2 := Lib.hid (HI.out.sub (List.drop_sublist (s - a) L) (List.drop_sublist (mid - s) R))
          have HLV := Lib.hid (fun (M1 M2 : List Nat) (p1 : M1.Perm (L.take (s - a) ++ R.take (mid - s))) (p2 : M2.Perm (L.drop (s - a) ++ R.drop (mid - s))) (h1 : Srt lt M1) (h2 : Srt lt M2) => halves p1 p2 h1 h2 HALL.out)
          clear HALL
          generalize L.take (s - a) = L1 at *
          generalize L.drop (s - a) = L2 at *
          generalize R.take (mid - s) = R1 at *
          generalize R.drop (mid - s) = R2 at *
          have HE1 := Lib.hid el
          have HE2 := Lib.hid er
          have HL := Lib.hid (And.intro l1 (And.intro l2 (And.intro l3 l4)))
          clear el er l1 l2 l3 l4
          go_cut [] (fun wx => Hid (RowAt wx g (P ++ (L1 ++ R1) ++ (L2 ++ R2 ++ Q)) rest) ∧ Hid (J wx) ∧ Only g w wx)
          case first =>
           as_aux_lemma =>
            by_cases hc1 : s < m ∧ m < en
            · have hz : decide (s < m ∧ m < en) = true := decide_eq_true hc1
              obtain ⟨l1, l2, l3, l4⟩ := HL.out
              have HT := Lib.hid (show Rot (P ++ (L1 ++ R1) ++ (L2 ++ R2 ++ Q)) m (P ++ (L ++ R) ++ Q) (m - s) (en - m) from
                ⟨P ++ L1, L2, R1, R2 ++ Q, by rw [← HE1.out, ← HE2.out]; simp, by simp, l2, by have := HEN.out; omega, by rw [List.length_append, l1]; have := E1.out; omega⟩)
              have HLn := Lib.hid (show len = (P ++ (L ++ R) ++ Q).length by rw [E3.out, E1.out]; simp; omega)
              clear l1 l2 l3 l4
              go_wp2_with fail
              refine (rotate_i g cap _ _ _ rest _ s m en _ _ HT.out (by omega) (by omega) (by omega) (by omega) (by have := HLn.out; omega) HRow.out len HLn.out).mono ?_
              rintro e w1 ⟨rfl, r1, o1⟩
              have R1' := Lib.hid r1
              have J1' := Lib.hid (HC.out.keep _ _ HJ1.out o1)
              have N1 := hnx.trans o1 (fun _ _ h => h)
              clear r1 o1
              go_wp2_with fail
              go_meet
              case rel => exact ⟨R1'.out, J1'.out, N1⟩
            · have hz : decide (s < m ∧ m < en) = false := decide_eq_false hc1
              have HT := Lib.hid (show P ++ (L ++ R) ++ Q = P ++ (L1 ++ R1) ++ (L2 ++ R2 ++ Q) by
                obtain ⟨l1, l2, l3, l4⟩ := HL.out
                rw [← HE1.out, ← HE2.out]
                rcases (show L2.length = 0 ∨ R1.length = 0 by have := HEN.out; omega) with h | h
                · rw [List.length_eq_zero_iff.1 h]; simp
                · rw [List.length_eq_zero_iff.1 h]; simp)
              go_wp2_with fail
              go_meet
              case rel => exact ⟨HT.out ▸ HRow.out, HJ1.out, hnx⟩
          case rest =>
           as_aux_lemma =>
            obtain ⟨HR2, HJ2, hn2⟩ := hcut
            go_upto_region 41 with fail
            go_cut [199] (fun s199 wx => s199 = .bool (decide (a < s ∧ s < mid)) ∧ wx = wc)
            case first =>
              by_cases hc1 : a < s
              · have hz : (a : Int) < (s : Int) := by omega
                have HE := Lib.hid (show decide (a < s ∧ s < mid) = decide (s < mid) by rw [decide_eq_decide]; omega)
                go_wp2_with fail
                go_meet
                case rel => exact ⟨congrArg Value.bool HE.out.symm, rfl⟩
              · have hz : decide ((a : Int) < (s : Int)) = false := decide_eq_false (by omega)
                have HE := Lib.hid (show decide (a < s ∧ s < mid) = false from decide_eq_false (by omega))
                go_wp2_with fail
                go_meet
                case rel => exact ⟨congrArg Value.bool HE.out.symm, rfl⟩
            case rest =>
              obtain ⟨rfl, hww⟩ := hcut
              subst hww
              go_upto_if 199 with fail
              go_cut [] (fun wx => ∃ M1 : List Nat, Hid (M1.Perm (L1 ++ R1) ∧ Srt lt M1 ∧ RowAt wx g (P ++ M1 ++ (L2 ++ R2 ++ Q)) rest) ∧ Hid (J wx) ∧ Only g w wx)
              case first =>
               as_aux_lemma =>
                by_cases hc1 : a < s ∧ s < mid
                · have hz : decide (a < s ∧ s < mid) = true := decide_eq_true hc1
                  go_wp2_with fail
                  have HLn := Lib.hid (show len = (P ++ (L1 ++ R1) ++ (L2 ++ R2 ++ Q)).length by
                    obtain ⟨l1, l2, l3, l4⟩ := HL.out
                    simp only [List.length_append]
                    have := E1.out
                    have := E2.out
                    have := E3.out
                    have := E4.out
                    have := HEN.out
                    omega)
                  obtain ⟨l1, l2, l3, l4⟩ := HL.out
                  refine (HIH.out P L1 R1 (L2 ++ R2 ++ Q) _ a s mid (by have := E5.out; have := E6.out; have := HM.out; have := E2.out; have := E4.out; omega) HS1.out HR2.out HJ2.out HLn.out E1.out (by omega) (by omega) (by omega) (by omega)).mono ?_
                  rintro e w1 ⟨rfl, ⟨M1, p1, p2, p3⟩, o1⟩
                  have K1 := Lib.hid (And.intro p1 (And.intro p2 p3))
                  have J1' := Lib.hid (HC.out.keep _ _ HJ2.out o1)
                  have N1 := hn2.trans o1 (fun _ _ h => h)
                  clear p1 p2 p3 o1 l1 l2 l3 l4
                  go_wp2_with fail
                  go_meet
                  case rel => exact ⟨M1, K1.out, J1'.out, N1⟩
                · have hz : decide (a < s ∧ s < mid) = false := decide_eq_false hc1
                  have K1 := Lib.hid (show Srt lt (L1 ++ R1) by
                    obtain ⟨l1, l2, l3, l4⟩ := HL.out
                    rcases (show L1.length = 0 ∨ R1.length = 0 by omega) with h | h
                    · rw [List.length_eq_zero_iff.1 h]; simpa using HS1.out.sr
                    · rw [List.length_eq_zero_iff.1 h]; simpa using HS1.out.sl)
                  go_wp2_with fail
                  go_meet
                  case rel => exact ⟨L1 ++ R1, ⟨List.Perm.refl _, K1.out, HR2.out⟩, HJ2.out, hn2⟩
              case rest =>
               as_aux_lemma =>
                obtain ⟨M1, K1, HJ3, hn3⟩ := hcut
                by_cases hc1 : mid < en
                · have hz : (mid : Int) < (en : Int) := by omega
                  by_cases hc2 : en < b
                  · have hz2 : (en : Int) < (b : Int) := by omega
                    go_wp2_with fail
                    have HLn := Lib.hid (show len = (P ++ M1 ++ (L2 ++ R2) ++ Q).length by
                      obtain ⟨l1, l2, l3, l4⟩ := HL.out
                      have lm := K1.out.1.length_eq
                      simp only [List.length_append] at lm ⊢
                      have := E1.out
                      have := E2.out
                      have := E3.out
                      have := E4.out
                      have := HEN.out
                      omega)
                    obtain ⟨l1, l2, l3, l4⟩ := HL.out
                    have lm := K1.out.1.length_eq
                    simp only [List.length_append] at lm
                    have hR3 := K1.out.2.2
                    rw [show P ++ M1 ++ (L2 ++ R2 ++ Q) = P ++ M1 ++ (L2 ++ R2) ++ Q by simp] at hR3
                    refine (HIH.out (P ++ M1) L2 R2 Q _ mid en b (by have := E5.out; have := E6.out; have := HM.out; have := E2.out; have := E4.out; have := HEN.out; omega) HS2.out hR3 HJ3.out HLn.out (by rw [List.length_append]; have := E1.out; omega) (by have := HEN.out; omega) (by have := HEN.out; omega) (by have := HEN.out; omega) (by have := HEN.out; omega)).mono ?_
                    rintro e w1 ⟨rfl, ⟨M2, p1, p2, p3⟩, o1⟩
                    have F := Lib.hid (HLV.out M1 M2 K1.out.1 p1 K1.out.2.1 p2)
                    have G := Lib.hid p3
                    have N1 := hn3.trans o1 (fun _ _ h => h)
                    clear p1 p2 p3 o1 l1 l2 l3 l4 lm hR3
                    go_wp2_with fail
                    go_end0
                    exact ⟨rfl, ⟨M1 ++ M2, F.out.2, F.out.1, by have := G.out; rwa [List.append_assoc P M1 M2] at this⟩, N1⟩
                  · have hz2 : decide ((en : Int) < (b : Int)) = false := decide_eq_false (by omega)
                    have K2 := Lib.hid (show Srt lt (L2 ++ R2) by
                      obtain ⟨l1, l2, l3, l4⟩ := HL.out
                      rw [List.length_eq_zero_iff.1 (show R2.length = 0 by omega)]; simpa using HS2.out.sl)
                    have F := Lib.hid (HLV.out M1 (L2 ++ R2) K1.out.1 (List.Perm.refl _) K1.out.2.1 K2.out)
                    go_wp2_with fail
                    go_end0
                    exact ⟨rfl, ⟨M1 ++ (L2 ++ R2), F.out.2, F.out.1, by have := K1.out.2.2; rwa [show P ++ M1 ++ (L2 ++ R2 ++ Q) = P ++ (M1 ++ (L2 ++ R2)) ++ Q by simp] at this⟩, hn3⟩
                · have hz : decide ((mid : Int) < (en : Int)) = false := decide_eq_false (by omega)
                  have K2 := Lib.hid (show Srt lt (L2 ++ R2) by
                    obtain ⟨l1, l2, l3, l4⟩ := HL.out
                    rw [List.length_eq_zero_iff.1 (show L2.length = 0 by have := HEN.out; omega)]; simpa using HS2.out.sr)
                  have F := Lib.hid (HLV.out M1 (L2 ++ R2) K1.out.1 (List.Perm.refl _) K1.out.2.1 K2.out)
                  go_wp2_with fail
                  go_end0
                  exact ⟨rfl, ⟨M1 ++ (L2 ++ R2), F.out.2, F.out.1, by have := K1.out.2.2; rwa [show P ++ M1 ++ (L2 ++ R2 ++ Q) = P ++ (M1 ++ (L2 ++ R2)) ++ Q by simp] at this⟩, hn3⟩
end Go.Proofs.Ytockdfhejbbbeaa
