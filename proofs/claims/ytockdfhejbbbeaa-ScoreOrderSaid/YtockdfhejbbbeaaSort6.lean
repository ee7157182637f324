/- slices' stable sort of at most 30. -/
import Derived.Test.YtockdfhejbbbeaaSort5
namespace Go.Proofs.Ytockdfhejbbbeaa
open Go.RowKit Go.Proofs.Ytockdfhejbbbeaa.Sy BigFrame

theorem sym_any (g cap lc : Nat) (cf : Nat → Nat → Int) (lt : Nat → Nat → Bool) (N : Nat) (J : World → Prop) (O : Strict lt) (C : Cmp 39 (capR lc) cf N g J) (hcl : ∀ x y, y < x → x < N → decide (cf x y < 0) = lt x y)
    (rest : List Value) (len : Nat) (hlen1 : len ≤ 1000) : ∀ k, SymC g cap lc lt N J rest len k := by
  intro k
  induction k with
  | zero => intro P L R Q w a m b h _ _ _ _ _ _ _ h1 h2; omega
  | succ k ih =>
    intro P L R Q w a m b hk hI hr hJ hlen ha hm hb h1 h2
    by_cases c1 : L.length = 1
    · obtain ⟨x, rfl⟩ := List.length_eq_one_iff.1 c1
      have := sym_one g cap lc cf lt N J O C hcl P R Q x rest w hI (by omega) hr hJ len hlen a b ha (by simp at hm; omega) h2
      rwa [show (a : Int) + 1 = ((m : Nat) : Int) by simp at hm; omega] at this
    · by_cases c2 : R.length = 1
      · obtain ⟨y, rfl⟩ := List.length_eq_one_iff.1 c2
        have := sym_two g cap lc cf lt N J O C hcl P L Q y rest w hI (by omega) hr hJ len hlen a m ha hm (by omega)
        rwa [show (m : Int) + 1 = ((b : Nat) : Int) by simp at hb; omega] at this
      · by_cases c3 : L.length + R.length = k + 1
        · exact sym_step g cap lc cf lt N J O C hcl rest len k hlen1 ih P L R Q w hI hr hJ hlen a m b ha hm hb c3 (by omega) (by omega)
        · exact ih P L R Q w a m b (by omega) hI hr hJ hlen ha hm hb h1 h2

/-- What is sorted: the places in order. -/
theorem range_up (n : Nat) : (List.range n).Pairwise (· < ·) := List.pairwise_lt_range
theorem range_cut {n k : Nat} (h : k ≤ n) : List.range n = List.range k ++ (List.range n).drop k := by
  conv => lhs; rw [← List.take_append_drop k (List.range n)]
  rw [List.take_range, Nat.min_eq_left h]

/-- What the sort leaves. -/
def StOut (lt : Nat → Nat → Bool) (g n : Nat) (rest : List Value) (w' : World) : Prop := ∃ M : List Nat, M.Perm (List.range n) ∧ Srt lt M ∧ RowAt w' g M rest

set_option maxRecDepth 100000 in
set_option maxHeartbeats 4000000 in
theorem stable_low (g cap lc : Nat) (cf : Nat → Nat → Int) (lt : Nat → Nat → Bool) (n : Nat) (J : World → Prop) (O : Strict lt) (C : Cmp 39 (capR lc) cf n g J) (hcl : ∀ x y, y < x → x < n → decide (cf x y < 0) = lt x y)
    (rest : List Value) (w : World) (hn : n < 20) (hr : RowAt w g (List.range n) rest) (hJ : J w) :
    Calls Try.prog 44 #[.slice (some ⟨g, 0, none⟩) n cap, .int .i64 n, .func (.func 39) #[] (capR lc)] w fun e w' => e = .returned (.tuple #[]) ∧ StOut lt g n rest w' ∧ Only g w w' := by
  have HR := Lib.hid hr
  have HJ := Lib.hid hJ
  have HC := Lib.hid C
  have HCL := Lib.hid hcl
  clear hr hJ C hcl
  unfold capR
  go_enter Try.func44, Try.ntmps44
  go_wp2
  go_loopw [7, 8, 11, 12, 13, 14, 15, 16, 17, 18, 19, 20, 21, 22] (fun s7 s8 _ _ _ _ _ _ _ _ _ _ _ _ wr => s7 = .int .i64 0 ∧ s8 = .int .i64 20 ∧ wr = w) (fun _ _ _ _ _ _ _ _ _ _ _ _ _ _ _ => 0)
  case atStart => exact ⟨rfl, rfl, rfl⟩
  case round =>
    obtain ⟨rfl, rfl, rfl⟩ := hrel
    go_wp2_with fail
    refine (insertion_any g cap lc cf lt n J O HC.out HCL.out [] (List.range n) [] rest _ (range_up n) (fun x hx => List.mem_range.1 hx) (by simp; omega) (by simpa using HR.out) HJ.out n (by simp) 0 n rfl (by simp)).mono ?_
    rintro e w1 ⟨rfl, ⟨M, h1, h2, h3⟩, o1⟩
    have K := Lib.hid (And.intro h1 (And.intro h2 h3))
    clear h1 h2 h3
    go_wp2_with fail
    go_loopw [6, 7, 8, 9, 28, 29, 30, 31, 32, 33, 34, 35, 36, 37, 38, 39, 40, 41, 42, 43, 44, 45, 46, 47, 48, 49, 50, 51, 52, 53, 54, 55, 56, 57, 58, 59, 60, 61, 62] (fun s6 _ _ _ _ _ _ _ _ _ _ _ _ _ _ _ _ _ _ _ _ _ _ _ _ _ _ _ _ _ _ _ _ _ _ _ _ _ _ wr => s6 = .int .i64 20 ∧ wr = w1) (fun _ _ _ _ _ _ _ _ _ _ _ _ _ _ _ _ _ _ _ _ _ _ _ _ _ _ _ _ _ _ _ _ _ _ _ _ _ _ _ _ => 0)
    case atStart => exact ⟨rfl, rfl⟩
    case round =>
      obtain ⟨rfl, rfl⟩ := hrel
      go_wp2_with fail
      go_end0
      exact ⟨rfl, ⟨M, K.out.1, K.out.2.1, by simpa using K.out.2.2⟩, o1⟩

set_option maxRecDepth 100000 in
set_option maxHeartbeats 4000000 in
theorem stable_high (g cap lc : Nat) (cf : Nat → Nat → Int) (lt : Nat → Nat → Bool) (n : Nat) (J : World → Prop) (O : Strict lt) (C : Cmp 39 (capR lc) cf n g J) (hcl : ∀ x y, y < x → x < n → decide (cf x y < 0) = lt x y)
    (rest : List Value) (w : World) (hn : 20 ≤ n) (hn' : n ≤ 30) (hr : RowAt w g (List.range n) rest) (hJ : J w) :
    Calls Try.prog 44 #[.slice (some ⟨g, 0, none⟩) n cap, .int .i64 n, .func (.func 39) #[] (capR lc)] w fun e w' => e = .returned (.tuple #[]) ∧ StOut lt g n rest w' ∧ Only g w w' := by
  have HR := Lib.hid hr
  have HJ := Lib.hid hJ
  have HC := Lib.hid C
  have HCL := Lib.hid hcl
  obtain ⟨X2, hX2⟩ : ∃ X2, (List.range n).drop 20 = X2 := ⟨_, rfl⟩
  have hcut := range_cut hn
  rw [hX2] at hcut
  have hup := range_up n
  rw [hcut] at hup
  have l2 : X2.length = n - 20 := by rw [← hX2, List.length_drop, List.length_range]
  have HX := Lib.hid hcut
  have HU := Lib.hid hup
  have L2 := Lib.hid l2
  have hmem : ∀ x ∈ X2, x < n := fun x hx => List.mem_range.1 (by rw [hcut]; exact List.mem_append_right _ hx)
  have HN := Lib.hid hmem
  clear hr hJ C hcl hcut hup l2 hX2 hmem
  unfold capR
  go_enter Try.func44, Try.ntmps44
  go_wp2
  go_loopw [7, 8, 11, 12, 13, 14, 15, 16, 17, 18, 19, 20, 21, 22] (fun s7 s8 _ _ _ _ _ _ _ _ _ _ _ _ wr => ∃ k : Nat, k ≤ 1 ∧ s7 = .int .i64 ((20 * k : Nat) : Int) ∧ s8 = .int .i64 ((20 * k + 20 : Nat) : Int) ∧ Hid (k = 0 → wr = w) ∧ Hid (k = 1 → ∃ M, M.Perm (List.range 20) ∧ Srt lt M ∧ RowAt wr g (M ++ X2) rest) ∧ Only g w wr) (fun _ s8 _ _ _ _ _ _ _ _ _ _ _ _ _ => 1000 - (intOf s8).toNat)
  case atStart => exact ⟨0, by omega, rfl, rfl, fun _ => rfl, fun h => by omega, Keep.refl _ _⟩
  case round =>
    obtain ⟨k, hk, rfl, rfl, H0, H1, hnx⟩ := hrel
    rcases (show k = 0 ∨ k = 1 by omega) with rfl | rfl
    · have hw : wr = w := H0.out rfl
      subst hw
      go_wp2_with fail
      refine (insertion_any g cap lc cf lt n J O HC.out HCL.out [] (List.range 20) X2 rest _ (range_up 20) (fun x hx => by have := List.mem_range.1 hx; omega) (by have := L2.out; simp; omega) (by have := HR.out; rw [HX.out] at this; simpa using this) HJ.out n (by have := L2.out; simp; omega) 0 20 rfl (by simp)).mono ?_
      rintro e w1 ⟨rfl, ⟨M, h1, h2, h3⟩, o1⟩
      have K := Lib.hid (And.intro h1 (And.intro h2 h3))
      clear h1 h2 h3
      go_wp2_with fail
      go_roundw
      case rel => exact ⟨1, by omega, rfl, rfl, fun h => by omega, fun _ => ⟨M, K.out.1, K.out.2.1, by simpa using K.out.2.2⟩, o1⟩
      case measure => simp [intOf]
    · obtain ⟨M, m1, m2, m3⟩ := H1.out rfl
      have hlm : M.length = 20 := by rw [m1.length_eq, List.length_range]
      have M1 := Lib.hid m1
      have M2 := Lib.hid m2
      have M3 := Lib.hid m3
      have LM := Lib.hid hlm
      have J1 := Lib.hid (HC.out.keep _ _ HJ.out hnx)
      clear m1 m2 m3 hlm
      go_wp2_with fail
      refine (insertion_any g cap lc cf lt n J O HC.out HCL.out M X2 [] rest _ (List.pairwise_append.1 HU.out).2.1 HN.out (by have := L2.out; have := LM.out; simp; omega) (by simpa using M3.out) J1.out n (by have := L2.out; have := LM.out; simp; omega) 20 n LM.out.symm (by have := L2.out; omega)).mono ?_
      rintro e w1 ⟨rfl, ⟨R, h1, h2, h3⟩, o1⟩
      rw [List.append_nil] at h3
      have K1 := Lib.hid h1
      have K2 := Lib.hid h2
      have K3 := Lib.hid h3
      have LR := Lib.hid (h1.length_eq.trans L2.out)
      have N1 := hnx.trans o1 (fun _ _ h => h)
      have J2 := Lib.hid (HC.out.keep _ _ J1.out o1)
      clear h1 h2 h3
      by_cases h20 : n = 20
      · subst h20
        go_wp2_with fail
        go_loopw [6, 7, 8, 9, 28, 29, 30, 31, 32, 33, 34, 35, 36, 37, 38, 39, 40, 41, 42, 43, 44, 45, 46, 47, 48, 49, 50, 51, 52, 53, 54, 55, 56, 57, 58, 59, 60, 61, 62] (fun s6 _ _ _ _ _ _ _ _ _ _ _ _ _ _ _ _ _ _ _ _ _ _ _ _ _ _ _ _ _ _ _ _ _ _ _ _ _ _ wr => s6 = .int .i64 20 ∧ wr = w1) (fun _ _ _ _ _ _ _ _ _ _ _ _ _ _ _ _ _ _ _ _ _ _ _ _ _ _ _ _ _ _ _ _ _ _ _ _ _ _ _ _ => 0)
        case atStart => exact ⟨rfl, rfl⟩
        case round =>
          obtain ⟨rfl, rfl⟩ := hrel
          go_wp2_with fail
          go_end0
          have hR0 : R = [] := List.eq_nil_of_length_eq_zero (by have := LR.out; omega)
          have hX0 : X2 = [] := List.eq_nil_of_length_eq_zero (by have := L2.out; omega)
          exact ⟨rfl, ⟨M, M1.out, M2.out, by have := K3.out; rw [hR0, List.append_nil] at this; exact this⟩, N1⟩
      · have h21 : (20 : Int) < (n : Int) := by omega
        have h22 : ¬ (40 : Int) ≤ (n : Int) := by omega
        have h23 : ¬ (40 : Int) < (n : Int) := by omega
        clear h20
        go_wp2_with fail
        go_loopw [6, 7, 8, 9, 28, 29, 30, 31, 32, 33, 34, 35, 36, 37, 38, 39, 40, 41, 42, 43, 44, 45, 46, 47, 48, 49, 50, 51, 52, 53, 54, 55, 56, 57, 58, 59, 60, 61, 62] (fun s6 _ _ _ _ _ _ _ _ _ _ _ _ _ _ _ _ _ _ _ _ _ _ _ _ _ _ _ _ _ _ _ _ _ _ _ _ _ _ wr => (s6 = .int .i64 20 ∧ wr = w1) ∨ (s6 = .int .i64 40 ∧ Hid (StOut lt g n rest wr) ∧ Only g w wr)) (fun s6 _ _ _ _ _ _ _ _ _ _ _ _ _ _ _ _ _ _ _ _ _ _ _ _ _ _ _ _ _ _ _ _ _ _ _ _ _ _ _ => 50 - (intOf s6).toNat)
        case atStart => exact .inl ⟨rfl, rfl⟩
        case round =>
          rcases hrel with ⟨rfl, rfl⟩ | ⟨rfl, HS, hn2⟩
          · obtain ⟨wo, rfl⟩ : ∃ wo : World, wo = wr := ⟨_, rfl⟩
            go_wp2_with fail
            go_loopw [7, 8, 33, 34, 35, 36, 37, 38, 39, 40, 41, 42, 43, 44, 45, 46, 47, 48] (fun s7 s8 _ _ _ _ _ _ _ _ _ _ _ _ _ _ _ _ wr => s7 = .int .i64 0 ∧ s8 = .int .i64 40 ∧ wr = wo) (fun _ _ _ _ _ _ _ _ _ _ _ _ _ _ _ _ _ _ _ => 0)
            case atStart => exact ⟨rfl, rfl, rfl⟩
            case round =>
              obtain ⟨rfl, rfl, hwo⟩ := hrel
              subst hwo
              go_wp2_with fail
              have HI : SymIn lt n M R := ⟨M2.out, K2.out, fun x hx y hy => (List.pairwise_append.1 HU.out).2.2 x (M1.out.subset hx) y (K1.out.subset hy), fun x hx => by have := List.mem_range.1 (M1.out.subset hx); omega, fun y hy => HN.out y (K1.out.subset hy)⟩
              refine (sym_any g cap lc cf lt n J O HC.out HCL.out rest n (by omega) (M.length + R.length) [] M R [] _ 0 20 n (Nat.le_refl _) HI (by simpa using K3.out) J2.out (by have := LM.out; have := LR.out; simp; omega) rfl (by have := LM.out; omega) (by have := LR.out; omega) (by have := LM.out; omega) (by have := LR.out; omega)).mono ?_
              rintro e w2 ⟨rfl, ⟨T, t1, t2, t3⟩, o2⟩
              have F := Lib.hid (show StOut lt g n rest w2 from ⟨T, by rw [HX.out]; exact t1.trans (M1.out.append K1.out), t2, by simpa using t3⟩)
              have N2 := N1.trans o2 (fun _ _ h => h)
              clear t1 t2 t3
              go_wp2_with fail
              go_roundw
              case rel => exact .inr ⟨rfl, F.out, N2⟩
              case measure => simp [intOf]
          · go_wp2_with fail
            go_end0
            exact ⟨rfl, HS.out, hn2⟩

theorem stable_any (g cap lc : Nat) (cf : Nat → Nat → Int) (lt : Nat → Nat → Bool) (n : Nat) (J : World → Prop) (O : Strict lt) (C : Cmp 39 (capR lc) cf n g J) (hcl : ∀ x y, y < x → x < n → decide (cf x y < 0) = lt x y)
    (rest : List Value) (w : World) (hn : n ≤ 30) (hr : RowAt w g (List.range n) rest) (hJ : J w) :
    Calls Try.prog 44 #[.slice (some ⟨g, 0, none⟩) n cap, .int .i64 n, .func (.func 39) #[] (capR lc)] w fun e w' => e = .returned (.tuple #[]) ∧ StOut lt g n rest w' ∧ Only g w w' := by
  by_cases h : n < 20
  · exact stable_low g cap lc cf lt n J O C hcl rest w h hr hJ
  · exact stable_high g cap lc cf lt n J O C hcl rest w (by omega) hn hr hJ

set_option maxHeartbeats 1000000 in
theorem sortStable_any (g cap lc : Nat) (cf : Nat → Nat → Int) (lt : Nat → Nat → Bool) (n : Nat) (J : World → Prop) (O : Strict lt) (C : Cmp 39 (capR lc) cf n g J) (hcl : ∀ x y, y < x → x < n → decide (cf x y < 0) = lt x y)
    (rest : List Value) (w : World) (hn : n ≤ 30) (hr : RowAt w g (List.range n) rest) (hJ : J w) :
    Calls Try.prog 38 #[.slice (some ⟨g, 0, none⟩) n cap, .func (.func 39) #[] (capR lc)] w fun e w' => e = .returned (.tuple #[]) ∧ StOut lt g n rest w' ∧ Only g w w' := by
  have H := Lib.hid (fun W h1 h2 => stable_any g cap lc cf lt n J O C hcl rest W hn h1 h2)
  have HR := Lib.hid hr
  have HJ := Lib.hid hJ
  clear hr hJ C hcl
  unfold capR at H ⊢
  go_enter Try.func38, Try.ntmps38
  go_wp2_with fail
  refine (H.out _ HR.out HJ.out).mono ?_
  rintro e w1 ⟨rfl, h1, h2⟩
  have H1 := Lib.hid h1
  clear h1
  go_wp2_with fail
  go_end0
  exact ⟨rfl, H1.out, h2⟩
end Go.Proofs.Ytockdfhejbbbeaa
