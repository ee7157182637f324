/- The walks of the reference's writer: Num to Bool, Done, NewWriter. -/
import Derived.Test.YtajlcodlaalomaaWire7
namespace Go.Proofs.Ytajlcodlaalomaa
open Go.RowKit Go.Proofs.Ytajlcodlaalomaa.Wi Go.Proofs.Ytajlcodlaalomaa.Pc
attribute [local go_sem] cell_alloc_some frozen_alloc_some

set_option maxHeartbeats 1000000 in
theorem rwNum_any {w : World} {B p : Nat} {lim e : Int} {bs : List UInt8} {s : Value} (n : Int) (hn : n < 9223372036854775808) (F : RWr w B p lim bs e s) :
    Calls Try.prog 50 #[.pointer (some ⟨p, 0, none⟩), .int .i64 n] w (RPuts w B p lim e bs s (decide (0 ≤ n)) (numL n.toNat)) := by
  have D := F.st
  have c := kb_cell D
  have z := kb_frozen D
  have hsp := own_ne F.row D (by decide)
  have HF := Lib.hid F
  clear F
  by_cases h0 : 0 ≤ n
  · obtain ⟨k, rfl⟩ := Int.eq_ofNat_of_zero_le h0
    have hk : k < 9223372036854775808 := by omega
    rw [decide_eq_true h0, show ((k : Nat) : Int).toNat = k from rfl]
    have hd : decide (((k : Nat) : Int) < 0) = false := decide_eq_false (by omega)
    clear h0 hn
    have HH := Lib.hid hk
    clear hk
    by_cases he : e = 0
    · subst he
      go_enter Try.func50, Try.ntmps50
      go_wp2_with fail
      refine (rNumber_any k _ HH.out).mono ?_
      rintro e1 w1 ⟨v, rfl, hN⟩
      obtain ⟨A, cap, rfl⟩ := owns_slice0 hN.1
      have HN := Lib.hid hN
      clear hN
      go_wp2_with fail
      refine (rputs HF.out HN.out.2 HN.out.bytes (by have := numL_len k; omega)).mono ?_
      rintro e2 w2 hP
      obtain ⟨rfl, hW⟩ := hP
      go_wp2_with fail
      go_ret
      exact ⟨rfl, hW⟩
    · have hne : (e == 0) = false := by simpa using he
      have HE := Lib.hid he
      clear he
      go_enter Try.func50, Try.ntmps50
      go_wp2_with fail
      go_ret
      unfold RPuts putS
      rw [if_pos HE.out]
      exact ⟨rfl, RWrTo.same HF.out (Below.refl _ _)⟩
  · rw [decide_eq_false h0]
    have hd : decide (n < 0) = true := decide_eq_true (by omega)
    have h1 : n < 0 := by omega
    clear hn h0
    by_cases he : e = 0
    · subst he
      go_enter Try.func50, Try.ntmps50
      go_wp2_with fail
      go_ret
      unfold RPuts putS
      rw [if_neg (by simp), if_pos rfl]
      have F1 := HF.out
      exact ⟨rfl, s, ⟨kb_set D _, own_set F1.row hsp, F1.lp, F1.len, F1.l0, F1.l1⟩, (Keep.refl _ w).set (fun _ => .inl rfl) _, fun _ hb => .inl hb⟩
    · have hne : (e == 0) = false := by simpa using he
      have HE := Lib.hid he
      clear he
      go_enter Try.func50, Try.ntmps50
      go_wp2_with fail
      go_ret
      unfold RPuts putS
      rw [if_pos HE.out]
      exact ⟨rfl, RWrTo.same HF.out (Below.refl _ _)⟩

set_option maxHeartbeats 1000000 in
theorem rwBytes_any {w : World} {B p : Nat} {lim e : Int} {bs : List UInt8} {s v : Value} {l : List UInt8} (hv : BytesOf w v l) (hl : l.length ≤ 1000000) (F : RWr w B p lim bs e s) :
    Calls Try.prog 52 #[.pointer (some ⟨p, 0, none⟩), v] w (RPuts w B p lim e bs s true (numL l.length ++ l)) := by
  obtain ⟨A, c, rfl⟩ := hv.form
  have HF := Lib.hid F
  have hC := rCounted_any hv hl
  have hXl : (numL l.length ++ l).length ≤ 1073741824 := by have := numL_len l.length; rw [List.length_append]; omega
  obtain ⟨X, hX⟩ : ∃ X, numL l.length ++ l = X := ⟨_, rfl⟩
  rw [hX] at hC hXl ⊢
  have HC := Lib.hid hC
  clear F hv hC hX
  go_enter Try.func52, Try.ntmps52
  go_wp2_with fail
  refine (HC.out).mono ?_
  rintro e1 w1 ⟨v, rfl, hN⟩
  obtain ⟨A1, cap, rfl⟩ := owns_slice0 hN.1
  have HN := Lib.hid hN
  clear hN
  go_wp2_with fail
  refine (rputs HF.out HN.out.2 HN.out.bytes hXl).mono ?_
  rintro e2 w2 hP
  obtain ⟨rfl, hW⟩ := hP
  go_wp2_with fail
  go_ret
  exact ⟨rfl, hW⟩

theorem text_bytes (w : World) (t : ByteArray) : Below w.heap.size w (Lib.bytesWorld w 5 t) ∧ BytesOf (Lib.bytesWorld w 5 t) (.slice (some ⟨w.heap.size, 0, none⟩) t.size (grownCap w t.size 0 5)) t.data.toList := by
  have hsz : t.data.toList.length = t.size := by simp
  refine ⟨⟨rfl, rfl, rfl, by rw [Lib.bytesWorld_size]; omega, fun b hb => Lib.bytesWorld_at_old _ _ _ _ hb⟩, _, _, by rw [hsz], u8s_len _, fun h0 => ⟨w.heap.size, 0, rfl, by rw [Lib.bytesWorld_size]; omega, fun j u hu => ?_⟩⟩
  have hj : j < t.size := by have := (List.getElem?_eq_some_iff.1 hu).1; rw [u8s_len, hsz] at this; exact this
  rw [Nat.zero_add, Lib.bytesWorld_cell w _ t j hj]
  rw [u8s_get _ _ (by rw [hsz]; exact hj)] at hu
  rw [← hu]
  simp [u8v, List.getD, hj]

set_option maxHeartbeats 1000000 in
theorem rwText_any {w : World} {B p : Nat} {lim e : Int} {bs : List UInt8} {s : Value} (t : ByteArray) (hl : t.size ≤ 1000000) (F : RWr w B p lim bs e s) :
    Calls Try.prog 51 #[.pointer (some ⟨p, 0, none⟩), .string t] w (RPuts w B p lim e bs s true (numL t.size ++ t.data.toList)) := by
  have hsz : t.data.toList.length = t.size := by simp
  have HF := Lib.hid F
  have hc := fun W => Lib.run_convert_string_bytes (P := Try.prog) W 9 32 5 t Try.underlying9 Try.underlying32 Try.underlying5
  obtain ⟨b1, hB⟩ := text_bytes w t
  have hC := rCounted_any hB (by rw [hsz]; exact hl)
  rw [hsz] at hC
  have hXl : (numL t.size ++ t.data.toList).length ≤ 1073741824 := by have := numL_len t.size; rw [List.length_append, hsz]; omega
  obtain ⟨X, hX⟩ : ∃ X, numL t.size ++ t.data.toList = X := ⟨_, rfl⟩
  rw [hX] at hC hXl ⊢
  have HC := Lib.hid hC
  clear F hB hC hX hsz
  go_enter Try.func51, Try.ntmps51
  go_wp2_with fail
  refine (HC.out).mono ?_
  rintro e1 w1 ⟨v, rfl, hN⟩
  obtain ⟨A1, cap, rfl⟩ := owns_slice0 hN.1
  have HN := Lib.hid hN
  clear hN
  go_wp2_with fail
  refine (rputs HF.out (bl_then b1 HN.out.2) HN.out.bytes hXl).mono ?_
  rintro e2 w2 hP
  obtain ⟨rfl, hW⟩ := hP
  go_wp2_with fail
  go_ret
  exact ⟨rfl, hW⟩

set_option maxHeartbeats 1000000 in
theorem rwWord_any {w : World} {B p : Nat} {lim e : Int} {bs : List UInt8} {s : Value} (n : Nat) (hn : n < 18446744073709551616) (F : RWr w B p lim bs e s) :
    Calls Try.prog 55 #[.pointer (some ⟨p, 0, none⟩), .int .u64 n] w (RPuts w B p lim e bs s true (wrdL n)) := by
  have HF := Lib.hid F
  have HH := Lib.hid hn
  clear F hn
  go_enter Try.func55, Try.ntmps55
  go_wp2_with fail
  refine (rWord_any n _ HH.out).mono ?_
  rintro e1 w1 ⟨v, rfl, hN⟩
  obtain ⟨A1, cap, rfl⟩ := owns_slice0 hN.1
  have HN := Lib.hid hN
  clear hN
  go_wp2_with fail
  refine (rputs HF.out HN.out.2 HN.out.bytes (by rw [wrdL_len]; omega)).mono ?_
  rintro e2 w2 hP
  obtain ⟨rfl, hW⟩ := hP
  go_wp2_with fail
  go_ret
  exact ⟨rfl, hW⟩

theorem canon_lt {b : Nat} (h : b < 18446744073709551616) : canon b < 18446744073709551616 := by
  unfold canon
  split
  · decide
  · exact h

set_option maxHeartbeats 1000000 in
theorem rwPace_any {w : World} {B p : Nat} {lim e : Int} {bs : List UInt8} {s : Value} (n : Nat) (hn : n < 18446744073709551616) (F : RWr w B p lim bs e s) :
    Calls Try.prog 56 #[.pointer (some ⟨p, 0, none⟩), .float .f64 n] w (RPuts w B p lim e bs s true (wrdL (canon n))) := by
  have HF := Lib.hid F
  have HH := Lib.hid (canon_lt hn)
  clear F hn
  go_enter Try.func56, Try.ntmps56
  go_wp2_with fail
  refine (rBits_any n _).mono ?_
  rintro e1 w1 ⟨rfl, rfl⟩
  go_wp2_with fail
  refine (rWord_any (canon n) _ HH.out).mono ?_
  rintro e1 w1 ⟨v, rfl, hN⟩
  obtain ⟨A1, cap, rfl⟩ := owns_slice0 hN.1
  have HN := Lib.hid hN
  clear hN
  go_wp2_with fail
  refine (rputs HF.out HN.out.2 HN.out.bytes (by rw [wrdL_len]; omega)).mono ?_
  rintro e2 w2 hP
  obtain ⟨rfl, hW⟩ := hP
  go_wp2_with fail
  go_ret
  exact ⟨rfl, hW⟩

set_option maxHeartbeats 1000000 in
theorem rwBool_any {w : World} {B p : Nat} {lim e : Int} {bs : List UInt8} {s : Value} (b : Bool) (F : RWr w B p lim bs e s) :
    Calls Try.prog 57 #[.pointer (some ⟨p, 0, none⟩), .bool b] w (RPuts w B p lim e bs s true [if b then 1 else 0]) := by
  have HF := Lib.hid F
  have hC := rBool_any b w
  have hXl : [if b = true then (1 : UInt8) else 0].length ≤ 1073741824 := by simp
  obtain ⟨X, hX⟩ : ∃ X, [if b = true then (1 : UInt8) else 0] = X := ⟨_, rfl⟩
  rw [hX] at hC hXl ⊢
  have HC := Lib.hid hC
  clear F hC hX
  go_enter Try.func57, Try.ntmps57
  go_wp2_with fail
  refine (HC.out).mono ?_
  rintro e1 w1 ⟨v, rfl, hN⟩
  obtain ⟨A1, cap, rfl⟩ := owns_slice0 hN.1
  have HN := Lib.hid hN
  clear hN
  go_wp2_with fail
  refine (rputs HF.out HN.out.2 HN.out.bytes hXl).mono ?_
  rintro e2 w2 hP
  obtain ⟨rfl, hW⟩ := hP
  go_wp2_with fail
  go_ret
  exact ⟨rfl, hW⟩

theorem lit0 (w : World) {B : Nat} (hB : B ≤ w.heap.size) : (w.alloc (.cells #[] 5)).ownsRow B 5 1 (.slice (some ⟨w.heap.size, 0, none⟩) 0 0) 0 [] :=
  owns_lit0 (kb_new rfl _) hB rfl

set_option maxRecDepth 100000 in
set_option maxHeartbeats 1000000 in
theorem rwHash_any {w : World} {B p : Nat} {lim e : Int} {bs : List UInt8} {s : Value} (l : List UInt8) (hl : l.length = 32) (F : RWr w B p lim bs e s) :
    Calls Try.prog 53 #[.pointer (some ⟨p, 0, none⟩), .agg (u8s l).toArray] w (RPuts w B p lim e bs s true l) := by
  have HF := Lib.hid F
  obtain ⟨i0, hi, hz0, hz1, hz2⟩ := info_parts infoU
  have hB : BytesOf (w.alloc (.cells (u8s l).toArray 34)) (.slice (some ⟨w.heap.size, 0, none⟩) 32 32) l := by rw [BytesOf, hl]; exact arr_bytes hl
  have HS := Lib.hid (hB.alloc (.cells #[] 5))
  have H1 := lit0 (w.alloc (.cells (u8s l).toArray 34)) (B := w.heap.size) (by simp)
  rw [World.size_alloc] at H1
  have H1 := Lib.hid H1
  clear F hB
  go_enter Try.func53, Try.ntmps53
  go_wp2_with (at_builtin; refine wpList_append_row _ rfl _ _ 32 rfl w.heap.size 5 i0 (.int .u8 0) 1 Try.underlying32 hi hz0 hz1 hz2 rfl _ _ _ rfl (H1.out) _ _ _ rfl (HS.out) (u8s_one _) ?c3 ?c4 ?c5 ?_)
  case c3 => rw [hl]; unfold maxLen; omega
  case c4 => rw [hl]; omega
  case c5 => simp; omega
  intro v' w2 hown' hgrow _ _
  have b0 : Below w.heap.size w ((w.alloc (.cells (u8s l).toArray 34)).alloc (.cells #[] 5)) := by (repeat (with_reducible (first | exact Below.refl _ _ | assumption | refine bl_alloc ?_ _ | refine bl_drew ?_ | refine bl_drewN ?_ _ | (refine bl_set ?_ ?_ _; (focus (first | (simp; done) | (simp; omega) | omega))) | refine bl_then ?_ (by assumption))))
  have b2 : Below w.heap.size w w2 := b0.grown hgrow (by simp; omega) (fun j hj => by simp [Value.ownBlock] at hj; omega)
  obtain ⟨A2, cap2, hv'⟩ := owns_slice0 hown'
  subst hv'
  have HB := Lib.hid (show BytesOf w2 (.slice A2 32 cap2) l by rw [BytesOf, hl]; exact RowOf.of_own hown')
  clear hgrow hown'
  go_wp2_with fail
  refine (rputs HF.out b2 HB.out (by rw [hl]; omega)).mono ?_
  rintro e2 w2 hP
  obtain ⟨rfl, hW⟩ := hP
  go_wp2_with fail
  go_ret
  exact ⟨rfl, hW⟩
set_option maxRecDepth 100000 in
set_option maxHeartbeats 1000000 in
theorem rwKey_any {w : World} {B p : Nat} {lim e : Int} {bs : List UInt8} {s : Value} (l : List UInt8) (hl : l.length = 4) (F : RWr w B p lim bs e s) :
    Calls Try.prog 54 #[.pointer (some ⟨p, 0, none⟩), .agg (u8s l).toArray] w (RPuts w B p lim e bs s true l) := by
  have HF := Lib.hid F
  obtain ⟨i0, hi, hz0, hz1, hz2⟩ := info_parts infoU
  have hB : BytesOf (w.alloc (.cells (u8s l).toArray 36)) (.slice (some ⟨w.heap.size, 0, none⟩) 4 4) l := by rw [BytesOf, hl]; exact arr_bytes hl
  have HS := Lib.hid (hB.alloc (.cells #[] 5))
  have H1 := lit0 (w.alloc (.cells (u8s l).toArray 36)) (B := w.heap.size) (by simp)
  rw [World.size_alloc] at H1
  have H1 := Lib.hid H1
  clear F hB
  go_enter Try.func54, Try.ntmps54
  go_wp2_with (at_builtin; refine wpList_append_row _ rfl _ _ 32 rfl w.heap.size 5 i0 (.int .u8 0) 1 Try.underlying32 hi hz0 hz1 hz2 rfl _ _ _ rfl (H1.out) _ _ _ rfl (HS.out) (u8s_one _) ?c3 ?c4 ?c5 ?_)
  case c3 => rw [hl]; unfold maxLen; omega
  case c4 => rw [hl]; omega
  case c5 => simp; omega
  intro v' w2 hown' hgrow _ _
  have b0 : Below w.heap.size w ((w.alloc (.cells (u8s l).toArray 36)).alloc (.cells #[] 5)) := by (repeat (with_reducible (first | exact Below.refl _ _ | assumption | refine bl_alloc ?_ _ | refine bl_drew ?_ | refine bl_drewN ?_ _ | (refine bl_set ?_ ?_ _; (focus (first | (simp; done) | (simp; omega) | omega))) | refine bl_then ?_ (by assumption))))
  have b2 : Below w.heap.size w w2 := b0.grown hgrow (by simp; omega) (fun j hj => by simp [Value.ownBlock] at hj; omega)
  obtain ⟨A2, cap2, hv'⟩ := owns_slice0 hown'
  subst hv'
  have HB := Lib.hid (show BytesOf w2 (.slice A2 4 cap2) l by rw [BytesOf, hl]; exact RowOf.of_own hown')
  clear hgrow hown'
  go_wp2_with fail
  refine (rputs HF.out b2 HB.out (by rw [hl]; omega)).mono ?_
  rintro e2 w2 hP
  obtain ⟨rfl, hW⟩ := hP
  go_wp2_with fail
  go_ret
  exact ⟨rfl, hW⟩

set_option maxRecDepth 100000 in
set_option maxHeartbeats 1000000 in
theorem rwDone_ok {w : World} {B p : Nat} {lim : Int} {bs : List UInt8} {s : Value} (F : RWr w B p lim bs 0 s) :
    Calls Try.prog 19 #[.pointer (some ⟨p, 0, none⟩)] w fun e1 w' => ∃ v, e1 = .returned (.tuple #[v, .int .i64 0]) ∧ NewBytes w w' v bs := by
  have D := F.st
  have c := kb_cell D
  have HF := Lib.hid F
  have hlen := F.len
  obtain ⟨i0, hi, hz0, hz1, hz2⟩ := info_parts infoU
  have HS := Lib.hid ((RowOf.of_own F.row).alloc (.cells #[] 5))
  have H1 := Lib.hid (lit0 w (B := w.heap.size) (Nat.le_refl _))
  obtain ⟨A, cap, rfl⟩ := owns_slice0 F.row
  clear F
  go_enter Try.func19, Try.ntmps19
  go_wp2_with (at_builtin; refine wpList_append_row _ rfl _ _ 32 rfl w.heap.size 5 i0 (.int .u8 0) 1 Try.underlying32 hi hz0 hz1 hz2 rfl _ _ _ rfl (H1.out) _ _ _ rfl (HS.out) (u8s_one _) ?c3 ?c4 ?c5 ?_)
  case c3 => unfold maxLen; omega
  case c4 => omega
  case c5 => simp
  intro v' w2 hown' hgrow _ _
  have b0 : Below w.heap.size w (w.alloc (.cells #[] 5)) := by (repeat (with_reducible (first | exact Below.refl _ _ | assumption | refine bl_alloc ?_ _ | refine bl_drew ?_ | refine bl_drewN ?_ _ | (refine bl_set ?_ ?_ _; (focus (first | (simp; done) | (simp; omega) | omega))) | refine bl_then ?_ (by assumption))))
  have b2 : Below w.heap.size w w2 := b0.grown hgrow (by simp) (fun j hj => by simp [Value.ownBlock] at hj; omega)
  obtain ⟨A2, cap2, hv'⟩ := owns_slice0 hown'
  subst hv'
  have HO := Lib.hid hown'
  clear hgrow hown'
  go_wp2_with fail
  go_ret2
  exact ⟨_, rfl, HO.out, b2⟩

set_option maxHeartbeats 1000000 in
theorem rwDone_err {w : World} {B p : Nat} {lim e : Int} {bs : List UInt8} {s : Value} (F : RWr w B p lim bs e s) (he : e ≠ 0) :
    Calls Try.prog 19 #[.pointer (some ⟨p, 0, none⟩)] w fun e1 w' => e1 = .returned (.tuple #[.slice none 0 0, .int .i64 e]) ∧ Below w.heap.size w w' := by
  have D := F.st
  have c := kb_cell D
  have hne : (e != 0) = true := by simpa using he
  have hne' : (e == 0) = false := by simpa using he
  clear F he
  go_enter Try.func19, Try.ntmps19
  go_wp2
  go_quiet (fail)
  go_wp2
  go_ret2
  exact ⟨rfl, by (repeat (with_reducible (first | exact Below.refl _ _ | assumption | refine bl_alloc ?_ _ | refine bl_drew ?_ | refine bl_drewN ?_ _ | (refine bl_set ?_ ?_ _; (focus (first | (simp; done) | (simp; omega) | omega))) | refine bl_then ?_ (by assumption))))⟩

set_option maxHeartbeats 1000000 in
theorem rNewWriter_no (n : Int) (w : World) (h : n < 0 ∨ 1048576 < n) :
    Calls Try.prog 12 #[.int .i64 n] w fun e w' => e = .returned (.tuple #[.pointer none, .int .i64 3]) ∧ w = w' := by
  rcases h with h | h
  · go_enter Try.func12, Try.ntmps12
    go_wp2
    go_ret2
    exact ⟨rfl, rfl⟩
  · have hn : ¬ n < 0 := by omega
    have hd : decide (1048576 < n) = true := decide_eq_true h
    go_enter Try.func12, Try.ntmps12
    go_wp2
    go_ret2
    exact ⟨rfl, rfl⟩

set_option maxHeartbeats 1000000 in
theorem rNewWriter_yes (n : Int) (w : World) (h0 : 0 ≤ n) (h1 : n ≤ 1048576) :
    Calls Try.prog 12 #[.int .i64 n] w fun e w' => e = .returned (.tuple #[.pointer (some ⟨w.heap.size, 0, none⟩), .int .i64 0]) ∧ RWr w' w.heap.size w.heap.size n [] 0 (.slice none 0 0) ∧ Below w.heap.size w w' := by
  have hd : decide (1048576 < n) = false := decide_eq_false (by omega)
  go_enter Try.func12, Try.ntmps12
  go_wp2
  go_ret2
  exact ⟨rfl, ⟨kb_new rfl _, World.ownsRow_nil _ _ _ _, Nat.le_refl _, by simp, h0, h1⟩, by (repeat (with_reducible (first | exact Below.refl _ _ | assumption | refine bl_alloc ?_ _ | refine bl_drew ?_ | refine bl_drewN ?_ _ | (refine bl_set ?_ ?_ _; (focus (first | (simp; done) | (simp; omega) | omega))) | refine bl_then ?_ (by assumption))))⟩
end Go.Proofs.Ytajlcodlaalomaa
