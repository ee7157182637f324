/- slices' stable sort over a row of ints of the call's own: the row as plain data; swapRange. -/
import Derived.Test.YtockdfhejbbbeaaKeep
import Derived.Test.YtockdfhejbbbeaaSymP
import Derived.BigRegion
import Derived.RegionTactic
import Derived.Outline
namespace Go.Proofs.Ytockdfhejbbbeaa
open Go.RowKit Go.Proofs.Ytockdfhejbbbeaa.Sy

/-- The cells of a row of ints, and what lies behind them. -/
def rowC (D : List Nat) (rest : List Value) : Array Value := (D.map (fun i : Nat => Value.int .i64 (i : Int)) ++ rest).toArray
theorem rowC_get (D : List Nat) (rest : List Value) {i : Nat} (h : i < D.length) : (rowC D rest)[i]? = some (.int .i64 ((D.getD i 0 : Nat) : Int)) := by
  unfold rowC
  simp [List.getElem?_append, h]
theorem rowC_set (D : List Nat) (rest : List Value) {i : Nat} (h : i < D.length) (x : Nat) : (rowC D rest).setIfInBounds i (.int .i64 (x : Int)) = rowC (D.set i x) rest := by
  unfold rowC
  rw [List.setIfInBounds_toArray, List.set_append_left _ _ (by simpa using h), List.map_set]
/-- A block that holds a row of ints. -/
def RowAt (w : World) (g : Nat) (D : List Nat) (rest : List Value) : Prop := w.heap[g]? = some (.cells (rowC D rest) 3 (0, 0))
theorem RowAt.cell {w : World} {g : Nat} {D : List Nat} {rest : List Value} (h : RowAt w g D rest) {i : Nat} (hi : i < D.length) : w.cell? ⟨g, i, none⟩ = some (.int .i64 ((D.getD i 0 : Nat) : Int)) := (kb_cell h i).trans (rowC_get D rest hi)
theorem RowAt.swp {w : World} {g : Nat} {D : List Nat} {rest : List Value} (h : RowAt w g D rest) {i j : Nat} (hi : i < D.length) (hj : j < D.length) :
    RowAt ((w.setCell ⟨g, i, none⟩ (.int .i64 ((D.getD j 0 : Nat) : Int))).setCell ⟨g, j, none⟩ (.int .i64 ((D.getD i 0 : Nat) : Int))) g (swp D i j) rest := by
  have h1 := kb_set (i := i) h (.int .i64 ((D.getD j 0 : Nat) : Int))
  rw [rowC_set D rest hi] at h1
  have h2 := kb_set (i := j) h1 (.int .i64 ((D.getD i 0 : Nat) : Int))
  rw [rowC_set _ rest (by simpa using hj)] at h2
  exact h2
/-- Of all that was there the call wrote that block alone. -/
abbrev Only (g : Nat) (w w' : World) : Prop := Keep (fun b => b = g) w w'

/-- The ranges as they stand behind k swaps. -/
def rngK (P X Q Y S : List Nat) (k : Nat) : List Nat := P ++ (Y.take k ++ X.drop k) ++ Q ++ (X.take k ++ Y.drop k) ++ S
theorem rngK_len (P X Q Y S : List Nat) (k : Nat) (h : X.length = Y.length) : (rngK P X Q Y S k).length = P.length + X.length + Q.length + Y.length + S.length := by
  simp [rngK]
  omega
theorem rngK_swp (P X Q Y S : List Nat) (k : Nat) (h : X.length = Y.length) (hk : k < X.length) :
    Sy.swp (rngK P X Q Y S k) (P.length + k) (P.length + X.length + Q.length + k) = rngK P X Q Y S (k + 1) := by
  have ex : X.drop k = X[k] :: X.drop (k + 1) := List.drop_eq_getElem_cons hk
  have ey : Y.drop k = Y[k]'(by omega) :: Y.drop (k + 1) := List.drop_eq_getElem_cons (by omega)
  have tx : X.take (k + 1) = X.take k ++ [X[k]] := by rw [List.take_add_one, List.getElem?_eq_getElem hk]; rfl
  have ty : Y.take (k + 1) = Y.take k ++ [Y[k]'(by omega)] := by rw [List.take_add_one, List.getElem?_eq_getElem (by omega)]; rfl
  have e1 : rngK P X Q Y S k = (P ++ Y.take k) ++ X[k] :: ((X.drop (k + 1) ++ Q ++ X.take k) ++ Y[k]'(by omega) :: (Y.drop (k + 1) ++ S)) := by
    unfold rngK
    rw [ex, ey]
    simp only [List.append_assoc, List.cons_append]
  have e2 : rngK P X Q Y S (k + 1) = (P ++ Y.take k) ++ Y[k]'(by omega) :: ((X.drop (k + 1) ++ Q ++ X.take k) ++ X[k] :: (Y.drop (k + 1) ++ S)) := by
    unfold rngK
    rw [tx, ty]
    simp only [List.append_assoc, List.cons_append, List.nil_append]
  rw [e1, e2]
  exact swp_far _ _ _ _ _ (by simp; omega) (by simp; omega)

set_option maxHeartbeats 1000000 in
theorem swapRange_any (g cap : Nat) (f : Value) (P X Q Y S : List Nat) (rest : List Value) (w : World) (h : X.length = Y.length) (hl : (rngK P X Q Y S 0).length ≤ 1000) (hr : RowAt w g (rngK P X Q Y S 0) rest) (n A B : Nat) (hA : A = P.length) (hB : B = P.length + X.length + Q.length) (hn : n = X.length) (len : Nat) (hlen : len = (rngK P X Q Y S 0).length) :
    Calls Try.prog 57 #[.slice (some ⟨g, 0, none⟩) len cap, .int .i64 A, .int .i64 B, .int .i64 n, f] w fun e w' => e = .returned (.tuple #[]) ∧ RowAt w' g (rngK P X Q Y S n) rest ∧ Only g w w' := by
  have HL := rngK_len P X Q Y S 0 h
  have HR := Lib.hid hr
  have hlen' : len = P.length + X.length + Q.length + Y.length + S.length := by omega
  have hX : n ≤ 1000 := by omega
  have hlb : B + n ≤ len := by omega
  have hab : A + n ≤ B := by omega
  have hl2 : len ≤ 1000 := by omega
  have E1 := Lib.hid hA
  have E2 := Lib.hid hB
  have E3 := Lib.hid hn
  have E4 := Lib.hid hlen'
  have E5 := Lib.hid h
  clear hr HL hl hlen hlen' hA hB hn h
  go_enter Try.func57, Try.ntmps57
  go_wp2
  go_loopw [10, 11, 12, 13, 14, 15, 16, 17, 18, 19, 20, 21, 22, 23, 24, 25, 26, 27, 28, 29, 30, 31, 32, 33, 34, 35, 36, 37] (fun s10 _ _ _ _ _ _ _ _ _ _ _ _ _ _ _ _ _ _ _ _ _ _ _ _ _ _ _ wr => ∃ k : Nat, k ≤ n ∧ s10 = .int .i64 k ∧ RowAt wr g (rngK P X Q Y S k) rest ∧ Only g w wr) (fun s10 _ _ _ _ _ _ _ _ _ _ _ _ _ _ _ _ _ _ _ _ _ _ _ _ _ _ _ _ => n - (intOf s10).toNat)
  case atStart => exact ⟨0, by omega, rfl, HR.out, Keep.refl _ _⟩
  case round =>
    obtain ⟨k, hk, rfl, R, hnx⟩ := hrel
    by_cases hlt : k < n
    · have hlk := rngK_len P X Q Y S k E5.out
      have i1 : A + k < (rngK P X Q Y S k).length := by have := E1.out; have := E2.out; have := E3.out; have := E4.out; omega
      have i2 : B + k < (rngK P X Q Y S k).length := by have := E1.out; have := E2.out; have := E3.out; have := E4.out; have := E5.out; omega
      have c1 := R.cell i1
      have c2 := R.cell i2
      have z := kb_frozen R
      have hsw := rngK_swp P X Q Y S k E5.out (by have := E3.out; omega)
      rw [← E2.out, ← E1.out] at hsw
      have R' := R.swp i1 i2
      rw [hsw] at R'
      have HR' := Lib.hid R'
      generalize (rngK P X Q Y S k).getD (A + k) 0 = u at *
      generalize (rngK P X Q Y S k).getD (B + k) 0 = v at *
      have e1 : IntKind.i64.wrap ((A : Int) + (k : Int)) = ((A + k : Nat) : Int) := by rw [IntKind.wrap_i64]; omega
      have e2 : IntKind.i64.wrap ((B : Int) + (k : Int)) = ((B + k : Nat) : Int) := by rw [IntKind.wrap_i64]; omega
      have d1 : A + k < len := by omega
      have d2 : B + k < len := by omega
      clear hlk hsw R' i1 i2
      go_wp2
      go_region
      go_wp2
      go_roundw
      case rel => exact ⟨k + 1, by omega, by go_num, kb_drew HR'.out, ((hnx.set (fun _ => rfl) _).set (fun _ => rfl) _).drew⟩
      case measure => simp [intOf]; omega
    · obtain rfl : k = n := by omega
      go_wp2
      go_end0
      exact ⟨rfl, R, hnx⟩
theorem swapRange_i (g cap : Nat) (f : Value) (P X Q Y S D : List Nat) (rest : List Value) (w : World) (h : X.length = Y.length) (hD : D = P ++ X ++ Q ++ Y ++ S) (hl : D.length ≤ 1000) (hr : RowAt w g D rest) (len : Nat) (hlen : len = D.length)
    {A B n : Int} (hA : A = P.length) (hB : B = P.length + X.length + Q.length) (hn : n = X.length) :
    Calls Try.prog 57 #[.slice (some ⟨g, 0, none⟩) len cap, .int .i64 A, .int .i64 B, .int .i64 n, f] w fun e w' => e = .returned (.tuple #[]) ∧ RowAt w' g (P ++ Y ++ Q ++ X ++ S) rest ∧ Only g w w' := by
  have e0 : D = rngK P X Q Y S 0 := by rw [hD]; simp [rngK]
  have e1 : rngK P X Q Y S X.length = P ++ Y ++ Q ++ X ++ S := by
    have h1 : Y.drop X.length = [] := by rw [h]; exact List.drop_length
    have h2 : Y.take X.length = Y := by rw [h]; exact List.take_length
    unfold rngK
    rw [h1, h2, List.drop_length, List.take_length]
    simp
  have hB' : B = ((P.length + X.length + Q.length : Nat) : Int) := by omega
  subst hA hB' hn
  rw [← e1]
  exact swapRange_any g cap f P X Q Y S rest w h (e0 ▸ hl) (e0 ▸ hr) _ _ _ rfl rfl rfl len (e0 ▸ hlen)

/-- What is turned about, in the making. -/
def Rot (T : List Nat) (m : Nat) (D : List Nat) (i j : Nat) : Prop := ∃ P X Y S : List Nat, D = P ++ X ++ Y ++ S ∧ T = P ++ Y ++ X ++ S ∧ X.length = i ∧ Y.length = j ∧ P.length + i = m
theorem Rot.len {T : List Nat} {m : Nat} {D : List Nat} {i j : Nat} (h : Rot T m D i j) : T.length = D.length ∧ i ≤ m ∧ m + j ≤ D.length := by
  obtain ⟨P, X, Y, S, rfl, rfl, h1, h2, h3⟩ := h
  refine ⟨by simp; omega, by omega, by simp; omega⟩
theorem rot_lt {T P X Y S Y1 Y2 : List Nat} {m i k : Nat} (e2 : T = P ++ Y ++ X ++ S) (ey : Y1 ++ Y2 = Y) (y2 : Y2.length = i) (y1 : Y1.length = k) (h : P.length + i = m) : Rot T m (P ++ Y2 ++ Y1 ++ X ++ S) i k :=
  ⟨P, Y2, Y1, X ++ S, by simp, by rw [e2, ← ey]; simp, y2, y1, h⟩
theorem rot_gt {T P X Y S X1 X2 : List Nat} {m i k : Nat} (e2 : T = P ++ Y ++ X ++ S) (ex : X1 ++ X2 = X) (x2 : X2.length = i) (x1 : X1.length = k) (h : P.length + Y.length + i = m) : Rot T m (P ++ Y ++ X2 ++ X1 ++ S) i k :=
  ⟨P ++ Y, X2, X1, S, by simp, by rw [e2, ← ex]; simp, x2, x1, by simp; omega⟩

set_option maxHeartbeats 1000000 in
theorem rotate_i (g cap : Nat) (f : Value) (T D : List Nat) (rest : List Value) (w : World) (a m b i0 j0 : Nat) (hT : Rot T m D i0 j0) (ha : a + i0 = m) (hb : b = m + j0) (h1 : 0 < i0) (h2 : 0 < j0) (hl : D.length ≤ 1000) (hr : RowAt w g D rest) (len : Nat) (hlen : len = D.length) :
    Calls Try.prog 56 #[.slice (some ⟨g, 0, none⟩) len cap, .int .i64 a, .int .i64 m, .int .i64 b, f] w fun e w' => e = .returned (.tuple #[]) ∧ RowAt w' g T rest ∧ Only g w w' := by
  have HR := Lib.hid hr
  have HT := Lib.hid hT
  have hTl := hT.len
  have hm1 : a ≤ m := by omega
  have hm2 : m ≤ b := by omega
  have hm3 : b ≤ 1000 := by omega
  have HL := Lib.hid hlen
  have HD := Lib.hid hl
  have HE := Lib.hid (show (m : Int) - a = i0 ∧ (b : Int) - m = j0 by omega)
  clear hr hT hTl ha hb hl hlen
  go_enter Try.func56, Try.ntmps56
  go_wp2
  go_loopw [10, 11, 18, 19, 20, 21, 22, 23, 24, 25, 26, 27, 28, 29, 30, 31, 32, 33, 34, 35, 36, 37, 38, 39, 40, 41, 42, 43, 44, 45, 46, 47, 48, 49] (fun s10 s11 _ _ _ _ _ _ _ _ _ _ _ _ _ _ _ _ _ _ _ _ _ _ _ _ _ _ _ _ _ _ _ _ wr => ∃ i j : Nat, ∃ E : List Nat, s10 = .int .i64 i ∧ s11 = .int .i64 j ∧ 0 < i ∧ 0 < j ∧ E.length = len ∧ Hid (Rot T m E i j) ∧ Hid (RowAt wr g E rest) ∧ Only g w wr) (fun s10 s11 _ _ _ _ _ _ _ _ _ _ _ _ _ _ _ _ _ _ _ _ _ _ _ _ _ _ _ _ _ _ _ _ _ => (intOf s10).toNat + (intOf s11).toNat)
  case atStart => exact ⟨i0, j0, D, by rw [HE.out.1], by rw [HE.out.2], h1, h2, HL.out.symm, HT.out, HR.out, Keep.refl _ _⟩
  case round =>
    obtain ⟨i, j, E, rfl, rfl, hi, hj, hE, hR, hW, hnx⟩ := hrel
    have HE2 := Lib.hid hE
    have hlen := hR.out.len
    have b1 : i ≤ m := by omega
    have b2 : m + j ≤ 1000 := by have := HL.out; have := HD.out; omega
    clear hlen hE
    rcases Nat.lt_trichotomy i j with hlt | heq | hgt
    · have hne : ((i : Int) != (j : Int)) = true := by simp; omega
      have hng : ¬ (j : Int) < (i : Int) := by omega
      have hcl : (i : Int) < (j : Int) := by omega
      go_wp2_with fail
      obtain ⟨P, X, Y, S, e1, e2, e3, e4, e5⟩ := hR.out
      have y1 : (Y.take (j - i)).length = j - i := by rw [List.length_take]; omega
      have y2 : (Y.drop (j - i)).length = i := by rw [List.length_drop]; omega
      have ey : Y.take (j - i) ++ Y.drop (j - i) = Y := List.take_append_drop _ _
      refine (swapRange_i g cap f P X (Y.take (j - i)) (Y.drop (j - i)) S E rest _ (by omega) (by rw [e1, ← ey]; simp) (by have := HE2.out; have := HL.out; have := HD.out; omega) hW.out len HE2.out.symm (by omega) (by omega) (by omega)).mono ?_
      rintro e w1 ⟨rfl, r1, o1⟩
      have R1 := Lib.hid r1
      have O1 := hnx.trans o1 (fun _ _ h => h)
      have RR := Lib.hid (show Rot T m (P ++ Y.drop (j - i) ++ Y.take (j - i) ++ X ++ S) i (j - i) from rot_lt e2 ey y2 y1 e5)
      have hlen1 := Lib.hid (show (P ++ Y.drop (j - i) ++ Y.take (j - i) ++ X ++ S).length = len by rw [← HE2.out, e1]; simp; omega)
      generalize P ++ Y.drop (j - i) ++ Y.take (j - i) ++ X ++ S = E1 at *
      clear r1 o1 e1 e2 e3 e4 e5 y1 y2 ey hR hW HE2
      go_wp2_with fail
      go_roundw
      case rel => exact ⟨i, j - i, E1, rfl, by rw [show ((j - i : Nat) : Int) = (j : Int) - i by omega], by omega, by omega, hlen1.out, RR.out, R1.out, O1⟩
      case measure => simp [intOf]; omega
    · subst heq
      have hne : ((i : Int) != (i : Int)) = false := by simp
      go_wp2_with fail
      obtain ⟨P, X, Y, S, e1, e2, e3, e4, e5⟩ := hR.out
      refine (swapRange_i g cap f P X [] Y S E rest _ (by omega) (by rw [e1]; simp) (by have := HE2.out; have := HL.out; have := HD.out; omega) hW.out len HE2.out.symm (by omega) (by simp; omega) (by omega)).mono ?_
      rintro e w1 ⟨rfl, r1, o1⟩
      have e6 : P ++ Y ++ [] ++ X ++ S = T := by rw [e2]; simp
      rw [e6] at r1
      have O1 := hnx.trans o1 (fun _ _ h => h)
      clear e1 e2 e3 e4 e5 e6 hR hW HE2
      go_wp2_with fail
      go_end0
      exact ⟨rfl, r1, O1⟩
    · have hne : ((i : Int) != (j : Int)) = true := by simp; omega
      have hcl : (j : Int) < (i : Int) := by omega
      go_wp2_with fail
      obtain ⟨P, X, Y, S, e1, e2, e3, e4, e5⟩ := hR.out
      have y1 : (X.take j).length = j := by rw [List.length_take]; omega
      have y2 : (X.drop j).length = i - j := by rw [List.length_drop]; omega
      have ey : X.take j ++ X.drop j = X := List.take_append_drop _ _
      refine (swapRange_i g cap f P (X.take j) (X.drop j) Y S E rest _ (by omega) (by rw [e1, ← ey]; simp) (by have := HE2.out; have := HL.out; have := HD.out; omega) hW.out len HE2.out.symm (by omega) (by omega) (by omega)).mono ?_
      rintro e w1 ⟨rfl, r1, o1⟩
      have R1 := Lib.hid r1
      have O1 := hnx.trans o1 (fun _ _ h => h)
      have RR := Lib.hid (show Rot T m (P ++ Y ++ X.drop j ++ X.take j ++ S) (i - j) j from rot_gt e2 ey y2 y1 (by omega))
      have hlen1 := Lib.hid (show (P ++ Y ++ X.drop j ++ X.take j ++ S).length = len by rw [← HE2.out, e1]; simp; omega)
      generalize P ++ Y ++ X.drop j ++ X.take j ++ S = E1 at *
      clear r1 o1 e1 e2 e3 e4 e5 y1 y2 ey hR hW HE2
      go_wp2_with fail
      go_roundw
      case rel => exact ⟨i - j, j, E1, by rw [show ((i - j : Nat) : Int) = (i : Int) - j by omega], rfl, by omega, by omega, hlen1.out, RR.out, R1.out, O1⟩
      case measure => simp [intOf]; omega
end Go.Proofs.Ytockdfhejbbbeaa
