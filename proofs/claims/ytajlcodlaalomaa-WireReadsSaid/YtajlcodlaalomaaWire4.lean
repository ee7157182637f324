/- The walks of package wire: what a writer writes. -/
import Derived.Test.YtajlcodlaalomaaWire3
import Derived.Test.YtajlcodlaalomaaPaceB
import Derived.Lib.ConvBytes
namespace Go.Proofs.Ytajlcodlaalomaa
open Go.RowKit Go.Proofs.Ytajlcodlaalomaa.Wi Go.Proofs.Ytajlcodlaalomaa.Pc
attribute [local go_sem] cell_alloc_some frozen_alloc_some

set_option maxHeartbeats 1000000 in
theorem wNum_any {w : World} {B p : Nat} {lim e : Int} {bs : List UInt8} {s : Value} (n : Int) (hn : n < 9223372036854775808) (F : Wr w B p lim bs e s) :
    Calls Try.prog 22 #[.pointer (some ⟨p, 0, none⟩), .int .i64 n] w (Puts w B p lim e bs s (decide (0 ≤ n)) (numL n.toNat)) := by
  have HF := Lib.hid F
  clear F
  by_cases h0 : 0 ≤ n
  · obtain ⟨k, rfl⟩ := Int.eq_ofNat_of_zero_le h0
    have hk : k < 9223372036854775808 := by omega
    have hm : max ((k : Nat) : Int) 0 = (k : Int) := by omega
    have hd : decide (0 ≤ ((k : Nat) : Int)) = true := decide_eq_true h0
    rw [hd, show ((k : Nat) : Int).toNat = k from rfl]
    clear h0 hn
    have HH := Lib.hid hk
    clear hk
    go_enter Try.func22, Try.ntmps22
    go_wp2_with fail
    refine (number_any k _ HH.out).mono ?_
    rintro e1 w1 ⟨v, rfl, hB, hb1⟩
    obtain ⟨A, c, rfl⟩ := hB.form
    have HB := Lib.hid hB
    clear hB
    go_wp2_with fail
    refine (puts1 true HF.out hb1 HB.out (by have := numL_len k; omega)).mono ?_
    rintro e2 w2 hP
    obtain ⟨rfl, hW⟩ := hP
    go_wp2_with fail
    go_ret
    exact ⟨rfl, hW⟩
  · have hm : max n 0 = 0 := by omega
    have hd : decide (0 ≤ n) = false := decide_eq_false h0
    have HN := Lib.hid (show numL n.toNat = numL 0 by rw [show n.toNat = 0 by omega])
    rw [hd, HN.out]
    have h00 : ((0 : Nat) : Int) = 0 := rfl
    have hk := number_any 0
    rw [h00] at hk
    have HK := Lib.hid hk
    have h1 : n < 0 := by omega
    clear hn hk h00 h0
    go_enter Try.func22, Try.ntmps22
    go_wp2_with fail
    refine (HK.out _ (by omega)).mono ?_
    rintro e1 w1 ⟨v, rfl, hB, hb1⟩
    obtain ⟨A, c, rfl⟩ := hB.form
    have HB := Lib.hid hB
    clear hB
    go_wp2_with fail
    refine (puts1 false HF.out hb1 HB.out (by decide)).mono ?_
    rintro e2 w2 hP
    obtain ⟨rfl, hW⟩ := hP
    go_wp2_with fail
    go_ret
    exact ⟨rfl, hW⟩

set_option maxHeartbeats 1000000 in
theorem wBytes_any {w : World} {B p : Nat} {lim e : Int} {bs : List UInt8} {s v : Value} {l : List UInt8} (hv : BytesOf w v l) (hl : l.length ≤ 1000000) (F : Wr w B p lim bs e s) :
    Calls Try.prog 45 #[.pointer (some ⟨p, 0, none⟩), v] w (Puts w B p lim e bs s true (numL l.length ++ l)) := by
  obtain ⟨A, c, rfl⟩ := hv.form
  have HF := Lib.hid F
  have HV := Lib.hid hv
  clear F hv
  go_enter Try.func45, Try.ntmps45
  go_wp2_with fail
  refine (number_any l.length _ (by omega)).mono ?_
  rintro e1 w1 ⟨v1, rfl, hB, hb1⟩
  obtain ⟨A1, c1, rfl⟩ := hB.form
  have HB := Lib.hid hB
  clear hB
  go_wp2_with fail
  refine (puts2 true HF.out hb1 HB.out (HV.out.below hb1) (by have := numL_len l.length; omega)).mono ?_
  rintro e2 w2 hP
  obtain ⟨rfl, hW⟩ := hP
  go_wp2_with fail
  go_ret
  exact ⟨rfl, hW⟩

set_option maxHeartbeats 1000000 in
theorem wBool_any {w : World} {B p : Nat} {lim e : Int} {bs : List UInt8} {s : Value} (b : Bool) (F : Wr w B p lim bs e s) :
    Calls Try.prog 43 #[.pointer (some ⟨p, 0, none⟩), .bool b] w (Puts w B p lim e bs s true [if b then 1 else 0]) := by
  have HF := Lib.hid F
  clear F
  cases b
  · go_enter Try.func43, Try.ntmps43
    go_wp2_with fail
    have hB : BytesOf (w.alloc (.cells #[.int .u8 0] 5)) (.slice (some ⟨w.heap.size, 0, none⟩) 1 1) [0] := RowOf.lit (cs := #[.int .u8 0]) (kb_new rfl _) rfl
    have hP := puts1 true HF.out (bl_alloc (Below.refl _ _) _) hB (by simp)
    rw [World.size_alloc] at hP
    refine hP.mono ?_
    clear hP
    rintro e2 w2 hP
    obtain ⟨rfl, hW⟩ := hP
    go_wp2_with fail
    go_ret
    exact ⟨rfl, hW⟩
  · go_enter Try.func43, Try.ntmps43
    go_wp2_with fail
    have hB : BytesOf (w.alloc (.cells #[.int .u8 1] 5)) (.slice (some ⟨w.heap.size, 0, none⟩) 1 1) [1] := RowOf.lit (cs := #[.int .u8 1]) (kb_new rfl _) rfl
    have hP := puts1 true HF.out (bl_alloc (Below.refl _ _) _) hB (by simp)
    rw [World.size_alloc] at hP
    refine hP.mono ?_
    clear hP
    rintro e2 w2 hP
    obtain ⟨rfl, hW⟩ := hP
    go_wp2_with fail
    go_ret
    exact ⟨rfl, hW⟩

set_option maxHeartbeats 1000000 in
theorem wText_any {w : World} {B p : Nat} {lim e : Int} {bs : List UInt8} {s : Value} (t : ByteArray) (hl : t.size ≤ 1000000) (F : Wr w B p lim bs e s) :
    Calls Try.prog 41 #[.pointer (some ⟨p, 0, none⟩), .string t] w (Puts w B p lim e bs s true (numL t.size ++ t.data.toList)) := by
  have hsz : t.data.toList.length = t.size := by simp
  have HF := Lib.hid F
  have hc := fun W => Lib.run_convert_string_bytes (P := Try.prog) W 9 32 5 t Try.underlying9 Try.underlying32 Try.underlying5
  have b1 : Below w.heap.size w (Lib.bytesWorld w 5 t) := ⟨rfl, rfl, rfl, by rw [Lib.bytesWorld_size]; omega, fun b hb => Lib.bytesWorld_at_old _ _ _ _ hb⟩
  have hB : BytesOf (Lib.bytesWorld w 5 t) (.slice (some ⟨w.heap.size, 0, none⟩) t.size (grownCap w t.size 0 5)) t.data.toList := by
    refine ⟨_, _, by rw [hsz], u8s_len _, fun h0 => ⟨w.heap.size, 0, rfl, by rw [Lib.bytesWorld_size]; omega, fun j u hu => ?_⟩⟩
    have hj : j < t.size := by have := (List.getElem?_eq_some_iff.1 hu).1; rw [u8s_len, hsz] at this; exact this
    rw [Nat.zero_add, Lib.bytesWorld_cell w _ t j hj]
    rw [u8s_get _ _ (by rw [hsz]; exact hj)] at hu
    rw [← hu]
    simp [u8v, List.getD, hj]
  have HB := Lib.hid hB
  clear F hB
  go_enter Try.func41, Try.ntmps41
  go_wp2_with fail
  have hW := wBytes_any HB.out (by rw [hsz]; exact hl) (HF.out.below b1)
  rw [hsz] at hW
  refine hW.mono ?_
  clear hW
  rintro e2 w2 hP
  obtain ⟨rfl, hW⟩ := hP
  go_wp2_with fail
  go_ret
  exact ⟨rfl, WrTo.after b1 hW⟩

set_option maxRecDepth 100000 in
set_option maxHeartbeats 1000000 in
theorem wWord_any {w : World} {B p : Nat} {lim e : Int} {bs : List UInt8} {s : Value} (n : Nat) (hn : n < 18446744073709551616) (F : Wr w B p lim bs e s) :
    Calls Try.prog 42 #[.pointer (some ⟨p, 0, none⟩), .int .u64 n] w (Puts w B p lim e bs s true (wrdL n)) := by
  have HF := Lib.hid F
  have HH := Lib.hid hn
  clear F hn
  go_enter Try.func42, Try.ntmps42
  go_wp2_with fail
  refine (word_any n _ HH.out).mono ?_
  rintro e1 w1 ⟨rfl, hb1⟩
  have h8 : (u8s (wrdL n)).toArray = #[.int .u8 ((UInt8.ofNat (n / 256 ^ 7)).toNat : Int), .int .u8 ((UInt8.ofNat (n / 256 ^ 6)).toNat : Int), .int .u8 ((UInt8.ofNat (n / 256 ^ 5)).toNat : Int), .int .u8 ((UInt8.ofNat (n / 256 ^ 4)).toNat : Int), .int .u8 ((UInt8.ofNat (n / 256 ^ 3)).toNat : Int), .int .u8 ((UInt8.ofNat (n / 256 ^ 2)).toNat : Int), .int .u8 ((UInt8.ofNat (n / 256 ^ 1)).toNat : Int), .int .u8 ((UInt8.ofNat (n / 256 ^ 0)).toNat : Int)] := rfl
  rw [h8]
  have hB : ∀ b7 b6 b5 b4 b3 b2 b1 b0 : Value, (u8s (wrdL n)).toArray = #[b7, b6, b5, b4, b3, b2, b1, b0] → BytesOf (w1.alloc (.cells #[b7, b6, b5, b4, b3, b2, b1, b0] 118)) (.slice (some ⟨w1.heap.size, 0, none⟩) 8 8) (wrdL n) := fun b7 b6 b5 b4 b3 b2 b1 b0 h => by
    have hx : u8s (wrdL n) = [b7, b6, b5, b4, b3, b2, b1, b0] := by have := congrArg Array.toList h; simpa using this
    show RowOf _ _ 8 (u8s (wrdL n))
    rw [hx]
    exact RowOf.lit (cs := #[b7, b6, b5, b4, b3, b2, b1, b0]) (kb_new rfl _) rfl
  have HB := Lib.hid (hB _ _ _ _ _ _ _ _ h8)
  clear hB h8
  generalize ((UInt8.ofNat (n / 256 ^ 7)).toNat : Int) = b7 at *
  generalize ((UInt8.ofNat (n / 256 ^ 6)).toNat : Int) = b6 at *
  generalize ((UInt8.ofNat (n / 256 ^ 5)).toNat : Int) = b5 at *
  generalize ((UInt8.ofNat (n / 256 ^ 4)).toNat : Int) = b4 at *
  generalize ((UInt8.ofNat (n / 256 ^ 3)).toNat : Int) = b3 at *
  generalize ((UInt8.ofNat (n / 256 ^ 2)).toNat : Int) = b2 at *
  generalize ((UInt8.ofNat (n / 256 ^ 1)).toNat : Int) = b1 at *
  generalize ((UInt8.ofNat (n / 256 ^ 0)).toNat : Int) = b0 at *
  go_wp2_with fail
  have hP := puts1 true HF.out (bl_alloc hb1 _) HB.out (by rw [wrdL_len]; omega)
  rw [World.size_alloc] at hP
  refine hP.mono ?_
  clear hP
  rintro e2 w2 hP
  obtain ⟨rfl, hW⟩ := hP
  go_wp2_with fail
  go_ret
  exact ⟨rfl, hW⟩

set_option maxHeartbeats 1000000 in
theorem wPace_any {w : World} {B p : Nat} {lim e : Int} {bs : List UInt8} {s : Value} (n : Nat) (hn : n < 18446744073709551616) (F : Wr w B p lim bs e s) :
    Calls Try.prog 48 #[.pointer (some ⟨p, 0, none⟩), .float .f64 n] w (Puts w B p lim e bs s true (wrdL (canon n))) := by
  have HF := Lib.hid F
  have hc : canon n < 18446744073709551616 := by
    unfold canon
    split
    · decide
    · exact hn
  have HH := Lib.hid hc
  clear F hn hc
  go_enter Try.func48, Try.ntmps48
  go_wp2_with fail
  refine (Bits_any n _).mono ?_
  rintro e1 w1 ⟨rfl, rfl⟩
  go_wp2_with fail
  refine (wWord_any (canon n) HH.out HF.out).mono ?_
  rintro e2 w2 hP
  obtain ⟨rfl, hW⟩ := hP
  go_wp2_with fail
  go_ret
  exact ⟨rfl, hW⟩
end Go.Proofs.Ytajlcodlaalomaa
