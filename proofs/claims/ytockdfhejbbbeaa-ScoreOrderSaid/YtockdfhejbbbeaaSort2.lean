/- slices' stable sort: insertion sort of a part of a row. -/
import Derived.Test.YtockdfhejbbbeaaSort1
import Derived.BigQuiet
import Derived.Deep.QuietTactic
namespace Go.Proofs.Ytockdfhejbbbeaa
open Go.RowKit Go.Proofs.Ytockdfhejbbbeaa.Sy BigFrame

/-- One that is laid into a list, c places in. -/
def insD (P S : List Nat) (x c : Nat) (Q : List Nat) : List Nat := P ++ (S.take c ++ x :: S.drop c) ++ Q
theorem insD_len (P S : List Nat) (x c : Nat) (Q : List Nat) : (insD P S x c Q).length = P.length + S.length + 1 + Q.length := by
  have : (S.take c).length + (S.drop c).length = S.length := by rw [← List.length_append, List.take_append_drop]
  simp only [insD, List.length_append, List.length_cons]
  omega
theorem insD_x (P S : List Nat) (x c : Nat) (Q : List Nat) {j : Nat} (hc : c ≤ S.length) (hj : j = P.length + c) : (insD P S x c Q).getD j 0 = x := by
  have e : insD P S x c Q = (P ++ S.take c) ++ x :: (S.drop c ++ Q) := by simp [insD]
  rw [e]
  exact getD_mid _ _ _ (by rw [hj, List.length_append, List.length_take]; omega)
theorem insD_split (P S : List Nat) (x c : Nat) (Q : List Nat) (hc : c < S.length) : insD P S x (c + 1) Q = (P ++ S.take c) ++ S.getD c 0 :: x :: (S.drop (c + 1) ++ Q) ∧ insD P S x c Q = (P ++ S.take c) ++ x :: S.getD c 0 :: (S.drop (c + 1) ++ Q) := by
  have t : S.take (c + 1) = S.take c ++ [S.getD c 0] := by rw [List.take_add_one, List.getElem?_eq_getElem hc, getD_at hc]; rfl
  have d : S.drop c = S.getD c 0 :: S.drop (c + 1) := by rw [List.drop_eq_getElem_cons hc, getD_at hc]
  unfold insD
  rw [t, d]
  simp
theorem insD_y (P S : List Nat) (x c : Nat) (Q : List Nat) {j : Nat} (hc : c < S.length) (hj : j = P.length + c) : (insD P S x (c + 1) Q).getD j 0 = S.getD c 0 := by
  rw [(insD_split P S x c Q hc).1]
  exact getD_mid _ _ _ (by rw [hj, List.length_append, List.length_take]; omega)
theorem insD_swp (P S : List Nat) (x c : Nat) (Q : List Nat) {j : Nat} (hc : c < S.length) (hj : j = P.length + c) : swp (insD P S x (c + 1) Q) (j + 1) j = insD P S x c Q := by
  rw [(insD_split P S x c Q hc).1, (insD_split P S x c Q hc).2, swp_comm]
  have h : j = (P ++ S.take c).length := by rw [hj, List.length_append, List.length_take]; omega
  exact swp_near _ _ _ _ h (by omega)

theorem ins_mem {X : List Nat} (hX : X.Pairwise (· < ·)) {k : Nat} (hk : k < X.length) {S : List Nat} (hp : S.Perm (X.take k)) : ∀ z ∈ S, z < X.getD k 0 := by
  intro z hz
  obtain ⟨i, h1, h2, rfl⟩ := mem_take (hp.subset hz)
  rw [getD_at h2, getD_at hk]
  exact List.pairwise_iff_getElem.1 hX i k h2 hk h1
theorem ins_out {lt : Nat → Nat → Bool} (O : Strict lt) {X S : List Nat} {k c : Nat} (hX : X.Pairwise (· < ·)) (hk : k < X.length) (hp : S.Perm (X.take k)) (hs : Srt lt S) (hc : c ≤ S.length)
    (c1 : 0 < c → lt (X.getD k 0) (S.getD (c - 1) 0) = false) (c2 : c < S.length → lt (X.getD k 0) (S.getD c 0) = true) :
    (S.take c ++ X.getD k 0 :: S.drop c).Perm (X.take (k + 1)) ∧ Srt lt (S.take c ++ X.getD k 0 :: S.drop c) := by
  refine ⟨?_, srt_lay O hs hc (fun z hz e => by have := ins_mem hX hk hp z hz; omega) c1 c2⟩
  have e : X.take (k + 1) = X.take k ++ [X.getD k 0] := by rw [List.take_add_one, List.getElem?_eq_getElem hk, getD_at hk]; rfl
  rw [e]
  exact (perm_lay S _ c).trans (hp.append_right _)
theorem ins_in {P S X Q : List Nat} {k : Nat} (hk : k < X.length) : P ++ S ++ (X.drop k ++ Q) = insD P S (X.getD k 0) S.length (X.drop (k + 1) ++ Q) := by
  have d : X.drop k = X.getD k 0 :: X.drop (k + 1) := by rw [List.drop_eq_getElem_cons hk, getD_at hk]
  unfold insD
  rw [d, List.take_length, List.drop_length]
  simp

/-- The row's ints are compared by a closure: at whatever world in which J holds; J is kept by what writes the row alone. -/
structure Cmp (F : Nat) (fc : Array Value) (cf : Nat → Nat → Int) (n g : Nat) (J : World → Prop) : Prop where
  call : ∀ i k W, i < n → k < n → J W → Calls Try.prog F (#[.int .i64 (i : Int), .int .i64 (k : Int)] ++ fc) W fun e w' => e = .returned (.int .i64 (cf i k)) ∧ Below W.heap.size W w'
  keep : ∀ W W', J W → Only g W W' → J W'
theorem Cmp.bel {F : Nat} {fc : Array Value} {cf : Nat → Nat → Int} {n g : Nat} {J : World → Prop} (h : Cmp F fc cf n g J) {W W' : World} (hJ : J W) (hb : Below W.heap.size W W') : J W' := h.keep W W' hJ (Keep.of_below hb)

/-- The closure's own captured variable. -/
def capR (lc : Nat) : Array Value := #[.pointer (some ⟨lc, 0, none⟩)]

set_option maxHeartbeats 2000000 in
theorem insertion_any (g cap lc : Nat) (cf : Nat → Nat → Int) (lt : Nat → Nat → Bool) (N : Nat) (J : World → Prop) (O : Strict lt) (C : Cmp 39 (capR lc) cf N g J) (hcl : ∀ x y, y < x → x < N → decide (cf x y < 0) = lt x y)
    (P X Q : List Nat) (rest : List Value) (w : World) (hX : X.Pairwise (· < ·)) (hXN : ∀ x ∈ X, x < N) (hl : (P ++ X ++ Q).length ≤ 1000) (hr : RowAt w g (P ++ X ++ Q) rest) (hJ : J w) (len : Nat) (hlen : len = (P ++ X ++ Q).length) (a b : Nat) (ha : a = P.length) (hb : b = a + X.length) :
    Calls Try.prog 52 #[.slice (some ⟨g, 0, none⟩) len cap, .int .i64 a, .int .i64 b, .func (.func 39) #[] (capR lc)] w fun e w' => e = .returned (.tuple #[]) ∧ (∃ M, M.Perm X ∧ Srt lt M ∧ RowAt w' g (P ++ M ++ Q) rest) ∧ Only g w w' := by
  have HR := Lib.hid hr
  have HJ := Lib.hid hJ
  have HC := Lib.hid C
  have HCL := Lib.hid hcl
  have HX := Lib.hid hX
  have HN := Lib.hid hXN
  have E1 := Lib.hid ha
  have E2 := Lib.hid hb
  have E3 := Lib.hid (show len = a + X.length + Q.length by rw [hlen]; simp; omega)
  have b1 : len ≤ 1000 := by omega
  have b2 : b ≤ len := by have := E3.out; omega
  have b3 : a ≤ b := by omega
  clear hr hJ C hcl hX hXN ha hb hl hlen
  unfold capR
  go_enter Try.func52, Try.ntmps52
  go_wp2
  go_loopw [8, 9, 12, 13, 14, 15, 16, 17, 18, 19, 20, 21, 22, 23, 24, 25, 26, 27, 28, 29, 30, 31, 32, 33, 34, 35, 36, 37, 38, 39, 40, 41, 42, 43, 44, 45, 46, 47, 48, 49, 50, 51, 52] (fun s8 _ _ _ _ _ _ _ _ _ _ _ _ _ _ _ _ _ _ _ _ _ _ _ _ _ _ _ _ _ _ _ _ _ _ _ _ _ _ _ _ _ _ wr => ∃ k : Nat, ∃ S : List Nat, s8 = .int .i64 ((a + k : Nat) : Int) ∧ 1 ≤ k ∧ k ≤ 1001 ∧ Hid (S.Perm (X.take k) ∧ Srt lt S ∧ RowAt wr g (P ++ S ++ (X.drop k ++ Q)) rest) ∧ J wr ∧ Only g w wr) (fun s8 _ _ _ _ _ _ _ _ _ _ _ _ _ _ _ _ _ _ _ _ _ _ _ _ _ _ _ _ _ _ _ _ _ _ _ _ _ _ _ _ _ _ _ => b - (intOf s8).toNat)
  case atStart =>
    refine ⟨1, X.take 1, by rw [show ((a + 1 : Nat) : Int) = (a : Int) + 1 by omega], by omega, by omega, ⟨List.Perm.refl _, ?_, ?_⟩, HJ.out, Keep.refl _ _⟩
    · rcases X with _ | ⟨x, X⟩
      · exact List.Pairwise.nil
      · exact List.pairwise_singleton _ _
    · have : P ++ X.take 1 ++ (X.drop 1 ++ Q) = P ++ X ++ Q := by rw [List.append_assoc, ← List.append_assoc (X.take 1), List.take_append_drop, List.append_assoc]
      rw [this]
      exact HR.out
  case round =>
    obtain ⟨k, S, rfl, hk, hk2, HS, hj, hnx⟩ := hrel
    have HJ1 := Lib.hid hj
    clear hj
    by_cases hlt : a + k < b
    · have hkX : Hid (k < X.length) := Lib.hid (by have := E2.out; omega)
      have hSl : Hid (S.length = k) := Lib.hid (by rw [HS.out.1.length_eq, List.length_take]; have := hkX.out; omega)
      have hltz : ((a + k : Nat) : Int) < (b : Int) := by omega
      go_wp2_with fail
      obtain ⟨x, hx⟩ : ∃ x, X.getD k 0 = x := ⟨_, rfl⟩
      have HX' := Lib.hid hx
      have hxN : x < N := by rw [← hx]; exact HN.out _ (getD_mem hkX.out)
      have hSx : Hid (∀ z ∈ S, z < x) := Lib.hid (fun z hz => by rw [← hx]; exact ins_mem HX.out hkX.out HS.out.1 z hz)
      clear hx
      go_loopw [9, 18, 19, 20, 21, 22, 23, 24, 25, 26, 27, 28, 29, 30, 31, 32, 33, 34, 35, 36, 37, 38, 39, 40, 41, 42, 43, 44, 45, 46, 47, 48, 49, 50, 51, 52] (fun s9 _ _ _ _ _ _ _ _ _ _ _ _ _ _ _ _ _ _ _ _ _ _ _ _ _ _ _ _ _ _ _ _ _ _ _ wr => ∃ c : Nat, s9 = .int .i64 ((a + c : Nat) : Int) ∧ c ≤ k ∧ Hid (RowAt wr g (insD P S x c (X.drop (k + 1) ++ Q)) rest) ∧ Hid (c < S.length → lt x (S.getD c 0) = true) ∧ Hid (J wr) ∧ Only g w wr) (fun s9 _ _ _ _ _ _ _ _ _ _ _ _ _ _ _ _ _ _ _ _ _ _ _ _ _ _ _ _ _ _ _ _ _ _ _ _ => (intOf s9).toNat)
      case atStart =>
        refine ⟨k, rfl, by omega, ?_, fun h => absurd h (by have := hSl.out; omega), HJ1.out, hnx⟩
        have := HS.out.2.2
        rw [ins_in hkX.out, HX'.out, hSl.out] at this
        exact this
      case round =>
        obtain ⟨c, rfl, hc, HRow, HLt, HJ2, hnx2⟩ := hrel
        by_cases h0 : c = 0
        · subst h0
          have hd : decide (((a + 0 : Nat) : Int) > (a : Int)) = false := decide_eq_false (by omega)
          have hd' : decide ((a : Int) < ((a + 0 : Nat) : Int)) = false := decide_eq_false (by omega)
          go_wp2_with fail
          (refine wp_region_below (by kernel_rfl) (by kernel_rfl) ?_; (repeat (first | go_big_quiet_skip | (go_big_quiet_want; first | (go_big_quiet_op; go_big_quiet_on) | (apply Exists.intro; refine ⟨fun W hW => ?_, ?_⟩; (focus (unfold Oper.quietAt; go_simp; first | exact rfl | exact ⟨rfl, rfl⟩)); go_big_quiet_on; simp only [Act.put, List.setIfInBounds_toArray, List.set_cons_succ, List.set_cons_zero])))); refine wpQuiet_nil ?_; intro w1 hb1; have hz1 := hb1.size)
          go_wp2
          have OUT := ins_out O HX.out hkX.out HS.out.1 HS.out.2.1 (c := 0) (by omega) (fun h => absurd h (by omega)) (fun h => by rw [HX'.out]; exact HLt.out h)
          rw [HX'.out] at OUT
          have HO := Lib.hid OUT
          clear OUT
          go_roundw
          case rel => exact ⟨k + 1, S.take 0 ++ x :: S.drop 0, by go_num, by omega, by omega, ⟨HO.out.1, HO.out.2, kb_below hb1 HRow.out⟩, HC.out.bel HJ2.out hb1, hnx2.then_below hb1⟩
          case measure => simp [intOf]; omega
        · obtain ⟨d, rfl⟩ : ∃ d, c = d + 1 := ⟨c - 1, by omega⟩
          clear h0
          obtain ⟨y, hy⟩ : ∃ y, S.getD d 0 = y := ⟨_, rfl⟩
          have hdS : d < S.length := by have := hSl.out; omega
          have hyS : y ∈ S := hy ▸ getD_mem hdS
          have hyx := hSx.out y hyS
          have hll := insD_len P S x (d + 1) (X.drop (k + 1) ++ Q)
          have hlq : (X.drop (k + 1) ++ Q).length + (k + 1) = X.length + Q.length := by rw [List.length_append, List.length_drop]; have := hkX.out; omega
          have hi1 : a + d + 1 < (insD P S x (d + 1) (X.drop (k + 1) ++ Q)).length := by rw [hll]; have := E1.out; omega
          have hi2 : a + d < (insD P S x (d + 1) (X.drop (k + 1) ++ Q)).length := by omega
          have v1 := insD_x P S x (d + 1) (X.drop (k + 1) ++ Q) (j := a + d + 1) (by omega) (by have := E1.out; omega)
          have v2 := insD_y P S x d (X.drop (k + 1) ++ Q) (j := a + d) hdS (by have := E1.out; omega)
          have g1 := RowAt.cell HRow.out hi1
          have g2 := RowAt.cell HRow.out hi2
          rw [v1] at g1
          rw [v2, hy] at g2
          have hgb : g < wr.heap.size := kb_lt HRow.out
          have hw' := fun (W : World) (hR : RowAt W g (insD P S x (d + 1) (X.drop (k + 1) ++ Q)) rest) => RowAt.swp hR hi1 hi2
          rw [v1, v2, hy, insD_swp P S x d _ hdS (by have := E1.out; omega)] at hw'
          have W1 := Lib.hid hw'
          have HY := Lib.hid hy
          have z1 := kb_frozen HRow.out
          have HD := Lib.hid hdS
          have HCC := fun W (hW : Below wr.heap.size wr W) => HC.out.call x y W hxN (by omega) (HC.out.bel HJ2.out hW)
          have HCC' := Lib.hid HCC
          have q3 : a + d + 1 < len := by have := E3.out; have := E1.out; have := hkX.out; omega
          clear hw' v1 v2 hi1 hi2 hll hlq hy HCC hdS
          rw [show ((a + (d + 1) : Nat) : Int) = ((a + d : Nat) : Int) + 1 by omega]
          have hcl := HCL.out x y hyx hxN
          have HL := Lib.hid hcl
          clear hcl
          generalize hj : a + d = j at *
          have hJJ := Lib.hid hj
          clear hj
          have r1 : IntKind.i64.wrap (j : Int) = (j : Int) := by rw [IntKind.wrap_i64]; omega
          have r2 : (a : Int) < (j : Int) + 1 := by have := hJJ.out; omega
          have r3 : (0 : Int) ≤ (j : Int) + 1 := by omega
          have r4 : ((j : Int) + 1).toNat = j + 1 := by omega
          have r5 : (j : Int) + 1 < (len : Int) := by omega
          have r6 : (j : Int) < (len : Int) := by omega
          cases hlv : lt x y
          · have hc0 : decide (cf x y < 0) = false := by rw [HL.out, hlv]
            go_wp2_with fail
            (refine wp_region_below (by kernel_rfl) (by kernel_rfl) ?_; (repeat (first | go_big_quiet_skip | (go_big_quiet_want; first | (go_big_quiet_op; go_big_quiet_on) | (apply Exists.intro; refine ⟨fun W hW => ?_, ?_⟩; (focus (have g1_r := (hW.cell (by exact hgb)).trans g1; have g2_r := (hW.cell (by exact hgb)).trans g2; unfold Oper.quietAt; go_simp; first | exact rfl | exact ⟨rfl, rfl⟩ | (go_at_call 39; exact q_call hW (HCC'.out _ hW)))); go_big_quiet_on; simp only [Act.put, List.setIfInBounds_toArray, List.set_cons_succ, List.set_cons_zero])))); refine wpQuiet_nil ?_; intro w1 hb1; have hz1 := hb1.size)
            go_wp2
            have OUT := ins_out O HX.out hkX.out HS.out.1 HS.out.2.1 (c := d + 1) (by have := HD.out; omega) (fun _ => by rw [HX'.out, Nat.add_sub_cancel, HY.out]; exact hlv) (fun h => by rw [HX'.out]; exact HLt.out h)
            rw [HX'.out] at OUT
            have HO := Lib.hid OUT
            clear OUT
            go_roundw
            case rel => exact ⟨k + 1, S.take (d + 1) ++ x :: S.drop (d + 1), by go_num, by omega, by omega, ⟨HO.out.1, HO.out.2, kb_below hb1 HRow.out⟩, HC.out.bel HJ2.out hb1, hnx2.then_below hb1⟩
            case measure => simp [intOf]; omega
          · have hc0 : decide (cf x y < 0) = true := by rw [HL.out, hlv]
            go_wp2_with fail
            (refine wp_region_below (by kernel_rfl) (by kernel_rfl) ?_; (repeat (first | go_big_quiet_skip | (go_big_quiet_want; first | (go_big_quiet_op; go_big_quiet_on) | (apply Exists.intro; refine ⟨fun W hW => ?_, ?_⟩; (focus (have g1_r := (hW.cell (by exact hgb)).trans g1; have g2_r := (hW.cell (by exact hgb)).trans g2; unfold Oper.quietAt; go_simp; first | exact rfl | exact ⟨rfl, rfl⟩ | (go_at_call 39; exact q_call hW (HCC'.out _ hW)))); go_big_quiet_on; simp only [Act.put, List.setIfInBounds_toArray, List.set_cons_succ, List.set_cons_zero])))); refine wpQuiet_nil ?_; intro w1 hb1; have hz1 := hb1.size)
            go_wp2_with fail
            have R2 : RowAt w1 g (insD P S x (d + 1) (X.drop (k + 1) ++ Q)) rest := kb_below hb1 HRow.out
            have k1 := (hb1.cell (by exact hgb)).trans g1
            have k2 := (hb1.cell (by exact hgb)).trans g2
            have k3 := kb_frozen R2
            have R3 := Lib.hid (W1.out w1 R2)
            have J3 := Lib.hid (HC.out.bel HJ2.out hb1)
            have N3 := hnx2.then_below hb1
            clear R2 g1 g2 z1
            go_region
            go_wp2
            go_roundw
            case rel => exact ⟨d, by first | rfl | go_num | (rw [hJJ.out]), by omega, kb_drew R3.out, fun _ => by rw [HY.out]; exact hlv, HC.out.keep _ _ J3.out (((Keep.refl (fun b => b = g) w1).set (fun _ => rfl) _).set (fun _ => rfl) _).drew, ((N3.set (fun _ => rfl) _).set (fun _ => rfl) _).drew⟩
            case measure => simp [intOf]
    · go_wp2
      go_end0
      refine ⟨rfl, ⟨S, ?_⟩, hnx⟩
      obtain ⟨h1, h2, h3⟩ := HS.out
      have hXk : X.length ≤ k := by have := E2.out; omega
      rw [List.take_of_length_le hXk] at h1
      rw [List.drop_of_length_le hXk, List.nil_append] at h3
      exact ⟨h1, h2, h3⟩
end Go.Proofs.Ytockdfhejbbbeaa
