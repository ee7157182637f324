/- The walks of package wire: what a writer writes. · The walks of package wire: Hash, Key, Done, NewWriter. · The walks of the reference's writer: forms. · The walks of the reference's writer: Put, what it writes. · The walks of the reference's writer: Num to Bool, Done, NewWriter. · The walks of package wire: must, caught, big. · The walks of package wire: take. · The walks of package wire: a number is read. · The walks of package wire: reads. Printed by wip/reads.py. · The walks of package wire: take[[]byte]. Printed by wip/takes.py. -/
import Derived.Test.YtooghjnddifpdaaWire3
import Derived.Test.YtooghjnddifpdaaCPaceB
import Derived.Lib.ConvBytes
import Derived.Recover
import Derived.Deep.RegionHeld3
import Derived.Deep.RegionHeld2
import Derived.Defers
section
namespace Go.Proofs.Ytooghjnddifpdaa
open Go.RowKit Go.Proofs.Ytooghjnddifpdaa.Wi Go.Proofs.Ytooghjnddifpdaa.Pc
attribute [local go_sem] cell_alloc_some frozen_alloc_some

set_option maxHeartbeats 1000000 in
theorem wNum_any {w : World} {B p : Nat} {lim e : Int} {bs : List UInt8} {s : Value} (n : Int) (hn : n < 9223372036854775808) (F : Wr w B p lim bs e s) :
    Calls Try.prog 65 #[.pointer (some ⟨p, 0, none⟩), .int .i64 n] w (Puts w B p lim e bs s (decide (0 ≤ n)) (numL n.toNat)) := by
  have HF := Lib.hid F
  clear F
  by_cases h0 : 0 ≤ n
  · obtain ⟨k, rfl⟩ := Int.eq_ofNat_of_zero_le h0
    have hk : k < 9223372036854775808 := by omega
    have hm : max ((k : Nat) : Int) 0 = (k : Int) := by omega
    have hd : decide (0 ≤ ((k : Nat) : Int)) = true := decide_eq_true h0
    rw [hd, show ((k : Nat) : Int).toNat = k from rfl]
    clear h0 hn
    have HH := Lib.hid hk
    clear hk
    go_enter Try.func65, Try.ntmps65
    go_wp2_with fail
    refine (number_any k _ HH.out).mono ?_
    rintro e1 w1 ⟨v, rfl, hB, hb1⟩
    obtain ⟨A, c, rfl⟩ := hB.form
    have HB := Lib.hid hB
    clear hB
    go_wp2_with fail
    refine (puts1 true HF.out hb1 HB.out (by have := numL_len k; omega)).mono ?_
    rintro e2 w2 hP
    obtain ⟨rfl, hW⟩ := hP
    go_wp2_with fail
    go_ret
    exact ⟨rfl, hW⟩
  · have hm : max n 0 = 0 := by omega
    have hd : decide (0 ≤ n) = false := decide_eq_false h0
    have HN := Lib.hid (show numL n.toNat = numL 0 by rw [show n.toNat = 0 by omega])
    rw [hd, HN.out]
    have h00 : ((0 : Nat) : Int) = 0 := rfl
    have hk := number_any 0
    rw [h00] at hk
    have HK := Lib.hid hk
    have h1 : n < 0 := by omega
    clear hn hk h00 h0
    go_enter Try.func65, Try.ntmps65
    go_wp2_with fail
    refine (HK.out _ (by omega)).mono ?_
    rintro e1 w1 ⟨v, rfl, hB, hb1⟩
    obtain ⟨A, c, rfl⟩ := hB.form
    have HB := Lib.hid hB
    clear hB
    go_wp2_with fail
    refine (puts1 false HF.out hb1 HB.out (by decide)).mono ?_
    rintro e2 w2 hP
    obtain ⟨rfl, hW⟩ := hP
    go_wp2_with fail
    go_ret
    exact ⟨rfl, hW⟩

set_option maxRecDepth 100000 in
set_option maxHeartbeats 1000000 in
theorem wWord_any {w : World} {B p : Nat} {lim e : Int} {bs : List UInt8} {s : Value} (n : Nat) (hn : n < 18446744073709551616) (F : Wr w B p lim bs e s) :
    Calls Try.prog 67 #[.pointer (some ⟨p, 0, none⟩), .int .u64 n] w (Puts w B p lim e bs s true (wrdL n)) := by
  have HF := Lib.hid F
  have HH := Lib.hid hn
  clear F hn
  go_enter Try.func67, Try.ntmps67
  go_wp2_with fail
  refine (word_any n _ HH.out).mono ?_
  rintro e1 w1 ⟨rfl, hb1⟩
  have h8 : (u8s (wrdL n)).toArray = #[.int .u8 ((UInt8.ofNat (n / 256 ^ 7)).toNat : Int), .int .u8 ((UInt8.ofNat (n / 256 ^ 6)).toNat : Int), .int .u8 ((UInt8.ofNat (n / 256 ^ 5)).toNat : Int), .int .u8 ((UInt8.ofNat (n / 256 ^ 4)).toNat : Int), .int .u8 ((UInt8.ofNat (n / 256 ^ 3)).toNat : Int), .int .u8 ((UInt8.ofNat (n / 256 ^ 2)).toNat : Int), .int .u8 ((UInt8.ofNat (n / 256 ^ 1)).toNat : Int), .int .u8 ((UInt8.ofNat (n / 256 ^ 0)).toNat : Int)] := rfl
  rw [h8]
  have hB : ∀ b7 b6 b5 b4 b3 b2 b1 b0 : Value, (u8s (wrdL n)).toArray = #[b7, b6, b5, b4, b3, b2, b1, b0] → BytesOf (w1.alloc (.cells #[b7, b6, b5, b4, b3, b2, b1, b0] 131)) (.slice (some ⟨w1.heap.size, 0, none⟩) 8 8) (wrdL n) := fun b7 b6 b5 b4 b3 b2 b1 b0 h => by
    have hx : u8s (wrdL n) = [b7, b6, b5, b4, b3, b2, b1, b0] := by have := congrArg Array.toList h; simpa using this
    show RowOf _ _ 8 (u8s (wrdL n))
    rw [hx]
    exact RowOf.lit (cs := #[b7, b6, b5, b4, b3, b2, b1, b0]) (kb_new rfl _) rfl
  have HB := Lib.hid (hB _ _ _ _ _ _ _ _ h8)
  clear hB h8
  generalize ((UInt8.ofNat (n / 256 ^ 7)).toNat : Int) = b7 at *
  generalize ((UInt8.ofNat (n / 256 ^ 6)).toNat : Int) = b6 at *
  generalize ((UInt8.ofNat (n / 256 ^ 5)).toNat : Int) = b5 at *
  generalize ((UInt8.ofNat (n / 256 ^ 4)).toNat : Int) = b4 at *
  generalize ((UInt8.ofNat (n / 256 ^ 3)).toNat : Int) = b3 at *
  generalize ((UInt8.ofNat (n / 256 ^ 2)).toNat : Int) = b2 at *
  generalize ((UInt8.ofNat (n / 256 ^ 1)).toNat : Int) = b1 at *
  generalize ((UInt8.ofNat (n / 256 ^ 0)).toNat : Int) = b0 at *
  go_wp2_with fail
  have hP := puts1 true HF.out (bl_alloc hb1 _) HB.out (by rw [wrdL_len]; omega)
  rw [World.size_alloc] at hP
  refine hP.mono ?_
  clear hP
  rintro e2 w2 hP
  obtain ⟨rfl, hW⟩ := hP
  go_wp2_with fail
  go_ret
  exact ⟨rfl, hW⟩

end Go.Proofs.Ytooghjnddifpdaa
end
section
namespace Go.Proofs.Ytooghjnddifpdaa
open Go.RowKit Go.Proofs.Ytooghjnddifpdaa.Wi Go.Proofs.Ytooghjnddifpdaa.Pc
attribute [local go_sem] cell_alloc_some frozen_alloc_some

theorem arr_bytes {w : World} {l : List UInt8} {t : TypeId} {n : Nat} (hn : l.length = n) : RowOf (w.alloc (.cells (u8s l).toArray t)) (.slice (some ⟨w.heap.size, 0, none⟩) n n) n (u8s l) := by
  have h : (w.alloc (.cells (u8s l).toArray t)).heap[w.heap.size]? = some _ := kb_new rfl _
  exact ⟨_, _, rfl, by rw [u8s_len]; exact hn, fun _ => ⟨_, 0, rfl, kb_lt h, fun j u hu => by rw [Nat.zero_add, kb_cell h, ← Array.getElem?_toList]; simpa using hu⟩⟩

set_option maxHeartbeats 1000000 in
theorem wHash_any {w : World} {B p : Nat} {lim e : Int} {bs : List UInt8} {s : Value} (l : List UInt8) (hl : l.length = 32) (F : Wr w B p lim bs e s) :
    Calls Try.prog 66 #[.pointer (some ⟨p, 0, none⟩), .agg (u8s l).toArray] w (Puts w B p lim e bs s true l) := by
  have HF := Lib.hid F
  have HB := Lib.hid (arr_bytes (w := w) (t := 23) hl)
  clear F
  go_enter Try.func66, Try.ntmps66
  go_wp2_with fail
  have hB : BytesOf (w.alloc (.cells (u8s l).toArray 23)) (.slice (some ⟨w.heap.size, 0, none⟩) 32 32) l := by rw [BytesOf, hl]; exact HB.out
  have hP := puts1 true HF.out (bl_alloc (Below.refl _ _) _) hB (by rw [hl]; omega)
  rw [World.size_alloc] at hP
  refine hP.mono ?_
  clear hP
  rintro e2 w2 hP
  obtain ⟨rfl, hW⟩ := hP
  go_wp2_with fail
  go_ret
  exact ⟨rfl, hW⟩

set_option maxHeartbeats 1000000 in
theorem wDone_ok {w : World} {B p : Nat} {lim : Int} {bs : List UInt8} {s : Value} (F : Wr w B p lim bs 0 s) :
    Calls Try.prog 68 #[.pointer (some ⟨p, 0, none⟩)] w fun e1 w' => ∃ v, e1 = .returned (.tuple #[v, .int .i64 0]) ∧ NewBytes w w' v bs := by
  have D := F.st
  have c := kb_cell D
  have HF := Lib.hid F
  have hlen := F.len
  have HB := Lib.hid (RowOf.of_own F.row)
  obtain ⟨A, cap, rfl⟩ := owns_slice0 F.row
  clear F
  go_enter Try.func68, Try.ntmps68
  go_wp2_with fail
  refine (Clone_any HB.out (by omega)).mono ?_
  rintro e1 w1 ⟨v, rfl, hN⟩
  obtain ⟨A1, cap1, rfl⟩ := owns_slice0 hN.1
  have HN := Lib.hid hN
  clear hN
  go_wp2_with fail
  go_ret2
  exact ⟨_, rfl, HN.out⟩

set_option maxHeartbeats 1000000 in
theorem wDone_err {w : World} {B p : Nat} {lim e : Int} {bs : List UInt8} {s : Value} (F : Wr w B p lim bs e s) (he : e ≠ 0) :
    Calls Try.prog 68 #[.pointer (some ⟨p, 0, none⟩)] w fun e1 w' => e1 = .returned (.tuple #[.slice none 0 0, .int .i64 e]) ∧ Below w.heap.size w w' := by
  have D := F.st
  have c := kb_cell D
  have hne : (e != 0) = true := by simpa using he
  have hne' : (e == 0) = false := by simpa using he
  clear F he
  go_enter Try.func68, Try.ntmps68
  go_wp2
  go_quiet (fail)
  go_wp2
  go_ret2
  exact ⟨rfl, by (repeat (with_reducible (first | exact Below.refl _ _ | assumption | refine bl_alloc ?_ _ | refine bl_drew ?_ | refine bl_drewN ?_ _ | (refine bl_set ?_ ?_ _; (focus (first | (simp; done) | (simp; omega) | omega))) | refine bl_then ?_ (by assumption))))⟩

set_option maxHeartbeats 1000000 in
theorem NewWriter_no (n : Int) (w : World) (h : n < 0 ∨ 1048576 < n) :
    Calls Try.prog 64 #[.int .i64 n] w fun e w' => e = .returned (.tuple #[.pointer none, .int .i64 3]) ∧ w = w' := by
  rcases h with h | h
  · go_enter Try.func64, Try.ntmps64
    go_wp2
    go_ret2
    exact ⟨rfl, rfl⟩
  · have hn : ¬ n < 0 := by omega
    have hd : decide (1048576 < n) = true := decide_eq_true h
    go_enter Try.func64, Try.ntmps64
    go_wp2
    go_ret2
    exact ⟨rfl, rfl⟩

set_option maxHeartbeats 1000000 in
theorem NewWriter_yes (n : Int) (w : World) (h0 : 0 ≤ n) (h1 : n ≤ 1048576) :
    Calls Try.prog 64 #[.int .i64 n] w fun e w' => e = .returned (.tuple #[.pointer (some ⟨w.heap.size, 0, none⟩), .int .i64 0]) ∧ Wr w' w.heap.size w.heap.size n [] 0 (.slice none 0 0) ∧ Below w.heap.size w w' := by
  have hd : decide (1048576 < n) = false := decide_eq_false (by omega)
  go_enter Try.func64, Try.ntmps64
  go_wp2
  go_ret2
  exact ⟨rfl, ⟨kb_new rfl _, World.ownsRow_nil _ _ _ _, Nat.le_refl _, by simp, h0, h1⟩, by (repeat (with_reducible (first | exact Below.refl _ _ | assumption | refine bl_alloc ?_ _ | refine bl_drew ?_ | refine bl_drewN ?_ _ | (refine bl_set ?_ ?_ _; (focus (first | (simp; done) | (simp; omega) | omega))) | refine bl_then ?_ (by assumption))))⟩
end Go.Proofs.Ytooghjnddifpdaa
end
section
namespace Go.Proofs.Ytooghjnddifpdaa
open Go.RowKit Go.Proofs.Ytooghjnddifpdaa.Wi Go.Proofs.Ytooghjnddifpdaa.Pc
attribute [local go_sem] cell_alloc_some frozen_alloc_some

theorem lit1 (w : World) {B : Nat} (hB : B ≤ w.heap.size) (c : UInt8) : (w.alloc (.cells #[u8v c] 5)).ownsRow B 5 1 (.slice (some ⟨w.heap.size, 0, none⟩) 1 1) 1 (u8s [c]) :=
  owns_lit (cs := #[u8v c]) (kb_new rfl _) hB rfl (by decide)

set_option maxRecDepth 100000 in
set_option maxHeartbeats 1000000 in
theorem rNumber_any (n : Nat) (w : World) (hn : n < 9223372036854775808) :
    Calls Try.prog 95 #[.int .i64 n] w fun e w' => ∃ v, e = .returned v ∧ NewBytes w w' v (numL n) := by
  have HN := Lib.hid hn
  have h0 : (n : Int) ≤ 9223372036854775807 := by omega
  obtain ⟨i0, hi, hz0, hz1, hz2⟩ := info_parts infoU
  clear hn
  go_enter Try.func95, Try.ntmps95
  go_wp2
  go_loopw [0, 3, 4, 5, 6, 7, 8, 9, 10, 11, 12] (fun s0 s3 _ _ _ _ _ _ _ _ _ wr => ∃ k : Nat, k ≤ 8 ∧ s0 = .int .i64 ((n / 256 ^ k : Nat) : Int) ∧ (∀ j, j < k → n / 256 ^ j ≠ 0) ∧ wr.ownsRow w.heap.size 5 1 s3 k (u8s (pre n k)) ∧ Below w.heap.size w wr) (fun s0 _ _ _ _ _ _ _ _ _ _ _ => (intOf s0).toNat)
  case atStart => exact ⟨0, by omega, by simp, fun j hj => by omega, World.ownsRow_nil _ _ _ _, Below.refl _ _⟩
  case round =>
    obtain ⟨k, hk, rfl, hd, hown, hb⟩ := hrel
    have HD := Lib.hid hd
    have hle : n / 256 ^ k ≤ n := Nat.div_le_self _ _
    have hle' : ((n / 256 ^ k : Nat) : Int) ≤ 9223372036854775807 := by omega
    have hws : w.heap.size ≤ wr.heap.size := hb.size
    obtain ⟨A, cap, hs⟩ := owns_slice0 hown
    subst hs
    have HO := Lib.hid hown
    clear hd hown
    by_cases hlt : n / 256 ^ k = 0
    · have HE := Lib.hid hlt
      rw [hlt, show ((0 : Nat) : Int) = 0 from rfl]
      clear hlt hle hle'
      have e8 : Value.int .u8 (k : Int) = u8v (UInt8.ofNat k) := by
        unfold u8v; congr 1; rw [UInt8.toNat_ofNat']; omega
      have L1 := lit1 wr hws (UInt8.ofNat k)
      rw [← e8] at L1
      have HS := Lib.hid (show BytesOf (wr.alloc (.cells #[.int .u8 (k : Int)] 5)) (.slice A k cap) (pre n k) by
        have := (RowOf.of_own HO.out).alloc (.cells #[.int .u8 (k : Int)] 5)
        rwa [BytesOf, pre_len])
      have H1 := Lib.hid L1
      clear L1 e8
      go_wp2_with (at_builtin; refine wpList_append_row _ rfl _ _ 58 rfl w.heap.size 5 i0 (.int .u8 0) 1 Try.underlying58 hi hz0 hz1 hz2 rfl _ _ _ rfl (H1.out) _ _ _ rfl (HS.out) (u8s_one _) ?c3 ?c4 ?c5 ?_)
      case c3 => rw [pre_len]; unfold maxLen; omega
      case c4 => rw [pre_len]; omega
      case c5 => simp; omega
      intro v' w2 hown' hgrow _ _
      have hb3 : Below w.heap.size w w2 := (bl_alloc hb _).grown hgrow (by simp; omega) (fun j hj => by simp [Value.ownBlock] at hj; omega)
      rw [← u8s_append, pre_len] at hown'
      obtain ⟨A', cap', hv'⟩ := owns_slice0 hown'
      subst hv'
      have HO3 := Lib.hid hown'
      clear hgrow hown'
      go_wp2_with fail
      go_ret
      refine ⟨_, rfl, ?_, hb3⟩
      rw [numL_at n k hk HD.out HE.out]
      have e9 : (UInt8.ofNat k :: ((List.range k).map fun j => UInt8.ofNat (n / 256 ^ j)).reverse).length = 1 + k := by simp; omega
      rw [e9]
      exact HO3.out
    · have hk8 : k < 8 := by
        have := HN.out
        by_cases e : k = 8
        · exfalso; apply hlt; subst e; rw [Nat.div_eq_zero_iff]; right; omega
        · omega
      obtain ⟨q, hq⟩ : ∃ q, n / 256 ^ k = q := ⟨_, rfl⟩
      have HQ := Lib.hid hq
      rw [hq] at hle' hlt ⊢
      have hpq : decide (0 < q) = true := decide_eq_true (by omega)
      have hq1 := Lib.hid hlt
      have hpos : (0 : Int) < (q : Int) := by omega
      clear hq hlt hle
      have e1 : Value.int .u8 ((q : Int) % 256) = u8v (UInt8.ofNat (n / 256 ^ k)) := by
        unfold u8v; congr 1; rw [UInt8.toNat_ofNat', HQ.out]; omega
      have e2 : n / 256 ^ (k + 1) = q / 256 := by rw [Nat.pow_succ, ← Nat.div_div_eq_div_mul, HQ.out]
      have E2 := Lib.hid e2
      have L1 := lit1 wr hws (UInt8.ofNat (n / 256 ^ k))
      rw [← e1] at L1
      have HS := Lib.hid (show BytesOf (wr.alloc (.cells #[.int .u8 ((q : Int) % 256)] 5)) (.slice A k cap) (pre n k) by
        have := (RowOf.of_own HO.out).alloc (.cells #[.int .u8 ((q : Int) % 256)] 5)
        rwa [BytesOf, pre_len])
      have H1 := Lib.hid L1
      clear L1 e1 e2
      go_wp2_with (at_builtin; refine wpList_append_row _ rfl _ _ 58 rfl w.heap.size 5 i0 (.int .u8 0) 1 Try.underlying58 hi hz0 hz1 hz2 rfl _ _ _ rfl (H1.out) _ _ _ rfl (HS.out) (u8s_one _) ?c3 ?c4 ?c5 ?_)
      case c3 => rw [pre_len]; unfold maxLen; omega
      case c4 => rw [pre_len]; omega
      case c5 => simp; omega
      intro v' w2 hown' hgrow _ _
      have hb3 : Below w.heap.size w w2 := (bl_alloc hb _).grown hgrow (by simp; omega) (fun j hj => by simp [Value.ownBlock] at hj; omega)
      rw [← u8s_append, pre_len] at hown'
      obtain ⟨A', cap', hv'⟩ := owns_slice0 hown'
      subst hv'
      have HO3 := Lib.hid hown'
      clear hgrow hown'
      go_wp2_with fail
      go_roundw
      case rel =>
        refine ⟨k + 1, by omega, by rw [E2.out]; rfl, fun j hj => ?_, ?_, hb3⟩
        · by_cases e : j < k
          · exact HD.out j e
          · obtain rfl : j = k := by omega
            rw [HQ.out]; exact hq1.out
        · have h := HO3.out
          rw [Nat.add_comm 1 k] at h ⊢
          rw [pre_next]; exact h
      case measure => have := hq1.out; simp [intOf]; omega

set_option maxRecDepth 100000 in
set_option maxHeartbeats 1000000 in
theorem rWord_any (n : Nat) (w : World) (hn : n < 18446744073709551616) :
    Calls Try.prog 96 #[.int .u64 n] w fun e w' => ∃ v, e = .returned v ∧ NewBytes w w' v (wrdL n) := by
  have h0 : (n : Int) ≤ 18446744073709551615 := by omega
  obtain ⟨i0, hi, hz0, hz1, hz2⟩ := info_parts infoU
  clear hn
  go_enter Try.func96, Try.ntmps96
  go_wp2
  go_loopw [0, 3, 4, 5, 6, 7, 8, 9, 10, 11, 12, 13, 14, 15] (fun s0 s3 s4 _ _ _ _ _ _ _ _ _ _ _ wr => ∃ k : Nat, k ≤ 8 ∧ s0 = .int .u64 ((n / 256 ^ k : Nat) : Int) ∧ s4 = .int .i64 k ∧ wr.ownsRow w.heap.size 5 1 s3 k (u8s (pre n k)) ∧ Below w.heap.size w wr) (fun _ _ s4 _ _ _ _ _ _ _ _ _ _ _ _ => 8 - (intOf s4).toNat)
  case atStart => exact ⟨0, by omega, by simp, rfl, World.ownsRow_nil _ _ _ _, Below.refl _ _⟩
  case round =>
    obtain ⟨k, hk, rfl, rfl, hown, hb⟩ := hrel
    have hle : n / 256 ^ k ≤ n := Nat.div_le_self _ _
    have hle' : ((n / 256 ^ k : Nat) : Int) ≤ 18446744073709551615 := by omega
    have hws : w.heap.size ≤ wr.heap.size := hb.size
    obtain ⟨A, cap, hs⟩ := owns_slice0 hown
    subst hs
    have HO := Lib.hid hown
    clear hown hle
    obtain ⟨q, hq⟩ : ∃ q, n / 256 ^ k = q := ⟨_, rfl⟩
    have HQ := Lib.hid hq
    rw [hq] at hle' ⊢
    clear hq
    by_cases hlt : k < 8
    · have e1 : Value.int .u8 ((q : Int) % 256) = u8v (UInt8.ofNat (n / 256 ^ k)) := by
        unfold u8v; congr 1; rw [UInt8.toNat_ofNat', HQ.out]; omega
      have E2 := Lib.hid (show n / 256 ^ (k + 1) = q / 256 by rw [Nat.pow_succ, ← Nat.div_div_eq_div_mul, HQ.out])
      have L1 := lit1 wr hws (UInt8.ofNat (n / 256 ^ k))
      rw [← e1] at L1
      have HS := Lib.hid (show BytesOf (wr.alloc (.cells #[.int .u8 ((q : Int) % 256)] 5)) (.slice A k cap) (pre n k) by
        have := (RowOf.of_own HO.out).alloc (.cells #[.int .u8 ((q : Int) % 256)] 5)
        rwa [BytesOf, pre_len])
      have H1 := Lib.hid L1
      clear L1 e1
      go_wp2_with (at_builtin; refine wpList_append_row _ rfl _ _ 58 rfl w.heap.size 5 i0 (.int .u8 0) 1 Try.underlying58 hi hz0 hz1 hz2 rfl _ _ _ rfl (H1.out) _ _ _ rfl (HS.out) (u8s_one _) ?c3 ?c4 ?c5 ?_)
      case c3 => rw [pre_len]; unfold maxLen; omega
      case c4 => rw [pre_len]; omega
      case c5 => simp; omega
      intro v' w2 hown' hgrow _ _
      have hb3 : Below w.heap.size w w2 := (bl_alloc hb _).grown hgrow (by simp; omega) (fun j hj => by simp [Value.ownBlock] at hj; omega)
      rw [← u8s_append, pre_len] at hown'
      obtain ⟨A', cap', hv'⟩ := owns_slice0 hown'
      subst hv'
      have HO3 := Lib.hid hown'
      clear hgrow hown'
      go_wp2_with fail
      go_roundw
      case rel =>
        refine ⟨k + 1, by omega, by rw [E2.out]; rfl, by go_num, ?_, hb3⟩
        have h := HO3.out
        rw [Nat.add_comm 1 k] at h ⊢
        rw [pre_next]; exact h
      case measure => simp [intOf]; omega
    · obtain rfl : k = 8 := by omega
      clear hlt
      go_wp2_with fail
      go_ret
      exact ⟨_, rfl, HO.out, hb⟩

end Go.Proofs.Ytooghjnddifpdaa
end
section
namespace Go.Proofs.Ytooghjnddifpdaa
open Go.RowKit Go.Proofs.Ytooghjnddifpdaa.Wi Go.Proofs.Ytooghjnddifpdaa.Pc
attribute [local go_sem] cell_alloc_some frozen_alloc_some

/-- The reference's writer. -/
structure RWr (w : World) (B p : Nat) (lim : Int) (bs : List UInt8) (e : Int) (s : Value) : Prop where
  st : w.heap[p]? = some (.cells #[.int .i64 lim, s, .int .i64 e] 134 (0, 0))
  row : w.ownsRow B 5 1 s bs.length (u8s bs)
  lp : B ≤ p
  len : bs.length ≤ 1048576
  l0 : 0 ≤ lim
  l1 : lim ≤ 1048576
theorem RWr.ltp {w B p lim bs e s} (h : RWr w B p lim bs e s) : p < w.heap.size := kb_lt h.st
theorem RWr.ltS {w B p lim bs e s} (h : RWr w B p lim bs e s) {b : Nat} (hb : WrS p s b) : B ≤ b ∧ b < w.heap.size := by
  rcases hb with rfl | hb
  · exact ⟨h.lp, h.ltp⟩
  · exact h.row.lt b hb
theorem RWr.keep {w w' : World} {B p lim bs e s} {S : Nat → Prop} (h : RWr w B p lim bs e s) (k : Keep S w w') (hn : ∀ b, WrS p s b → ¬ S b) : RWr w' B p lim bs e s where
  st := k.kb h.st (hn p (.inl rfl))
  row := k.row h.row fun b hb => hn b (.inr hb)
  lp := h.lp
  len := h.len
  l0 := h.l0
  l1 := h.l1
theorem RWr.below {w w' : World} {B p lim bs e s} (h : RWr w B p lim bs e s) (k : Below w.heap.size w w') : RWr w' B p lim bs e s := h.keep (S := fun _ => False) (Keep.of_below k) fun _ _ x => x
def RWrTo (w w' : World) (B p : Nat) (lim : Int) (s : Value) (bs' : List UInt8) (e' : Int) : Prop :=
  ∃ s', RWr w' B p lim bs' e' s' ∧ Keep (WrS p s) w w' ∧ ∀ b, s'.ownBlock = some b → s.ownBlock = some b ∨ w.heap.size ≤ b
theorem RWrTo.same {w w' : World} {B p lim bs e s} (h : RWr w B p lim bs e s) (k : Below w.heap.size w w') : RWrTo w w' B p lim s bs e := ⟨s, h.below k, Keep.of_below k, fun _ hb => .inl hb⟩
theorem RWrTo.after {w w1 w2 : World} {B p lim s bs' e'} (k : Below w.heap.size w w1) (h : RWrTo w1 w2 B p lim s bs' e') : RWrTo w w2 B p lim s bs' e' := by
  obtain ⟨s', h1, h2, h3⟩ := h
  exact ⟨s', h1, Keep.after k h2, fun b hb => (h3 b hb).imp id fun h => Nat.le_trans k.size h⟩
def RPuts (w : World) (B p : Nat) (lim e : Int) (bs : List UInt8) (s : Value) (may : Bool) (f : List UInt8) (e1 : Ending) (w' : World) : Prop :=
  e1 = .returned (.int .i64 (putS lim bs e may f).e) ∧ RWrTo w w' B p lim s (putS lim bs e may f).bs (putS lim bs e may f).e

set_option maxRecDepth 100000 in
set_option maxHeartbeats 1000000 in
theorem rPut_err {w : World} {B p : Nat} {lim e : Int} {bs f : List UInt8} {s v : Value} (F : RWr w B p lim bs e s) (hv : BytesOf w v f) (he : e ≠ 0) :
    Calls Try.prog 94 #[.pointer (some ⟨p, 0, none⟩), v] w fun e1 w' => e1 = .returned (.int .i64 e) ∧ RWrTo w w' B p lim s bs e := by
  have hne : (e == 0) = false := by simpa using he
  have D := F.st
  have c := kb_cell D
  obtain ⟨A, cap, rfl⟩ := hv.form
  have HF := Lib.hid F
  clear F he hv
  go_enter Try.func94, Try.ntmps94
  go_wp2_with fail
  go_quiet (fail)
  go_wp2_with fail
  go_ret
  exact ⟨rfl, RWrTo.same HF.out (by (repeat (with_reducible (first | exact Below.refl _ _ | assumption | refine bl_alloc ?_ _ | refine bl_drew ?_ | refine bl_drewN ?_ _ | (refine bl_set ?_ ?_ _; (focus (first | (simp; done) | (simp; omega) | omega))) | refine bl_then ?_ (by assumption)))))⟩

set_option maxRecDepth 100000 in
set_option maxHeartbeats 1000000 in
theorem rPut_long {w : World} {B p : Nat} {lim : Int} {bs f : List UInt8} {s v : Value} (F : RWr w B p lim bs 0 s) (hv : BytesOf w v f) (hf : f.length ≤ 1073741824) (hlong : lim < (bs.length : Int) + f.length) :
    Calls Try.prog 94 #[.pointer (some ⟨p, 0, none⟩), v] w fun e1 w' => e1 = .returned (.int .i64 4) ∧ RWrTo w w' B p lim s bs 4 := by
  have D := F.st
  have c := kb_cell D
  have z := kb_frozen D
  have hlen := F.len
  obtain ⟨A, cap, rfl⟩ := hv.form
  obtain ⟨A', cap', rfl⟩ := owns_slice0 F.row
  have HF := Lib.hid F
  have hw : IntKind.i64.wrap ((bs.length : Int) + (f.length : Int)) = (bs.length : Int) + (f.length : Int) := IntWalk.i64_in _ (by omega)
  have hd : decide (lim < (bs.length : Int) + (f.length : Int)) = true := decide_eq_true hlong
  clear F hv hlong
  go_enter Try.func94, Try.ntmps94
  go_wp2_with fail
  go_quiet (fail)
  go_wp2_with fail
  go_ret
  have F1 := HF.out
  have hsp := own_ne F1.row D (by decide)
  have k1 : Keep (WrS p (.slice A' bs.length cap')) w ((w.drewN nq).setCell ⟨p, 2, none⟩ (.int .i64 4)) := ((Keep.refl _ w).drewN nq).set (fun _ => .inl rfl) _
  exact ⟨rfl, _, ⟨kb_set (kb_drewN D nq) _, (owns_drewN F1.row nq).kept (row := some p) ⟨rfl, rfl, rfl, by simp, fun b _ hb => Below.heap_setCell _ _ _ _ (fun e => hb (by rw [e]))⟩ (.inr hsp), F1.lp, F1.len, F1.l0, F1.l1⟩, k1, fun _ hb => .inl hb⟩

set_option maxRecDepth 100000 in
set_option maxHeartbeats 2000000 in
theorem rPut_ok {w : World} {B p : Nat} {lim : Int} {bs f : List UInt8} {s v : Value} (F : RWr w B p lim bs 0 s) (hv : BytesOf w v f) (hlong : (bs.length : Int) + f.length ≤ lim) :
    Calls Try.prog 94 #[.pointer (some ⟨p, 0, none⟩), v] w fun e1 w' => e1 = .returned (.int .i64 0) ∧ RWrTo w w' B p lim s (bs ++ f) 0 := by
  have D := F.st
  have c := kb_cell D
  have hlen := F.len
  have hl1 := F.l1
  obtain ⟨A, cap, rfl⟩ := hv.form
  obtain ⟨A', cap', rfl⟩ := owns_slice0 F.row
  have HF := Lib.hid F
  have HV := Lib.hid hv
  have hw : IntKind.i64.wrap ((bs.length : Int) + (f.length : Int)) = (bs.length : Int) + (f.length : Int) := IntWalk.i64_in _ (by omega)
  have hd : decide (lim < (bs.length : Int) + (f.length : Int)) = false := decide_eq_false (by omega)
  obtain ⟨i0, hi, hz0, hz1, hz2⟩ := info_parts infoU
  have hsum : bs.length + f.length ≤ 1048576 := by omega
  have hBw : B ≤ w.heap.size := by have := F.ltp; have := F.lp; omega
  clear F hv
  go_enter Try.func94, Try.ntmps94
  go_wp2_with fail
  go_quiet (fail)
  clear hw hd
  have HS := Lib.hid (((RowOf.of_own HF.out.row).drewN nq).alloc (.cells #[] 5))
  have hn := owns_lit0 (w := (w.drewN nq).alloc (.cells #[] 5)) (base := w.heap.size) (cap := 0) (kb_new rfl _) (Nat.le_refl _) rfl
  have H1 := Lib.hid hn
  clear hn
  go_wp2_with (at_builtin; refine wpList_append_row _ rfl _ _ 58 rfl w.heap.size 5 i0 (.int .u8 0) 1 Try.underlying58 hi hz0 hz1 hz2 rfl _ _ _ rfl (H1.out) _ _ _ rfl (HS.out) (u8s_one _) ?c3 ?c4 ?c5 ?_)
  case c3 => unfold maxLen; omega
  case c4 => omega
  case c5 => simp
  intro v' w2 hown' hgrow _ hat
  have b0 : Below w.heap.size w ((w.drewN nq).alloc (.cells #[] 5)) := by (repeat (with_reducible (first | exact Below.refl _ _ | assumption | refine bl_alloc ?_ _ | refine bl_drew ?_ | refine bl_drewN ?_ _ | (refine bl_set ?_ ?_ _; (focus (first | (simp; done) | (simp; omega) | omega))) | refine bl_then ?_ (by assumption))))
  have b2 : Below w.heap.size w w2 := b0.grown hgrow (by simp) (fun j hj => by simp [Value.ownBlock] at hj; omega)
  obtain ⟨A2, cap2, hv'⟩ := owns_slice0 hown'
  subst hv'
  have HO := Lib.hid hown'
  have HV2 := Lib.hid (HV.out.below b2)
  have hws : w.heap.size ≤ w2.heap.size := b2.size
  clear hgrow hown' hat c
  go_wp2_with (at_builtin; refine wpList_append_row _ rfl _ _ 58 rfl w.heap.size 5 i0 (.int .u8 0) 1 Try.underlying58 hi hz0 hz1 hz2 rfl _ _ _ rfl (HO.out) _ _ _ rfl (HV2.out) (u8s_one _) ?c3 ?c4 ?c5 ?_)
  case c3 => unfold maxLen; omega
  case c4 => omega
  case c5 => omega
  intro v' w3 hown' hgrow _ _
  have b3 : Below w.heap.size w w3 := b2.grown hgrow hws (fun j hj => (HO.out.lt j hj).1)
  rw [← u8s_append] at hown'
  obtain ⟨A3, cap3, hv'⟩ := owns_slice0 hown'
  subst hv'
  have D3 := kb_below b3 D
  have c3 := kb_cell D3
  have z3 := kb_frozen D3
  have HO3 := Lib.hid hown'
  clear hgrow hown'
  go_wp2_with fail
  go_ret
  have F1 := HF.out
  have hsp := own_ne HO3.out D3 (by decide)
  have k1 : Keep (WrS p (.slice A' bs.length cap')) w (w3.setCell ⟨p, 1, none⟩ (.slice A3 (bs.length + f.length) cap3)) := (Keep.of_below b3).set (fun _ => .inl rfl) _
  have hr := own_set (i := 1) (u := .slice A3 (bs.length + f.length) cap3) HO3.out hsp
  exact ⟨rfl, .slice A3 (bs.length + f.length) cap3, ⟨kb_set D3 _, by rw [List.length_append]; exact owns_mono hr hBw, F1.lp, by rw [List.length_append]; exact hsum, F1.l0, F1.l1⟩, k1, fun b hb => .inr (HO3.out.lt b hb).1⟩

theorem rPut_any {w : World} {B p : Nat} {lim e : Int} {bs f : List UInt8} {s v : Value} (F : RWr w B p lim bs e s) (hv : BytesOf w v f) (hf : f.length ≤ 1073741824) :
    Calls Try.prog 94 #[.pointer (some ⟨p, 0, none⟩), v] w (RPuts w B p lim e bs s true f) := by
  unfold RPuts putS
  by_cases he : e = 0
  · subst he
    rw [if_neg (by simp), if_neg (by simp)]
    by_cases hl : lim < (bs.length : Int) + f.length
    · rw [if_pos hl]; exact rPut_long F hv hf hl
    · rw [if_neg hl]; exact rPut_ok F hv (by omega)
  · rw [if_pos he]; exact rPut_err F hv he
theorem rputs {w w0 : World} {B p : Nat} {lim e : Int} {bs f : List UInt8} {s v : Value} (F : RWr w0 B p lim bs e s) (hb : Below w0.heap.size w0 w) (hv : BytesOf w v f) (hf : f.length ≤ 1073741824) :
    Calls Try.prog 94 #[.pointer (some ⟨p, 0, none⟩), v] w (RPuts w0 B p lim e bs s true f) :=
  (rPut_any (F.below hb) hv hf).mono fun _ _ ⟨h1, h2⟩ => ⟨h1, RWrTo.after hb h2⟩
end Go.Proofs.Ytooghjnddifpdaa
end
section
namespace Go.Proofs.Ytooghjnddifpdaa
open Go.RowKit Go.Proofs.Ytooghjnddifpdaa.Wi Go.Proofs.Ytooghjnddifpdaa.Pc
attribute [local go_sem] cell_alloc_some frozen_alloc_some

set_option maxHeartbeats 1000000 in
theorem rwNum_any {w : World} {B p : Nat} {lim e : Int} {bs : List UInt8} {s : Value} (n : Int) (hn : n < 9223372036854775808) (F : RWr w B p lim bs e s) :
    Calls Try.prog 70 #[.pointer (some ⟨p, 0, none⟩), .int .i64 n] w (RPuts w B p lim e bs s (decide (0 ≤ n)) (numL n.toNat)) := by
  have D := F.st
  have c := kb_cell D
  have z := kb_frozen D
  have hsp := own_ne F.row D (by decide)
  have HF := Lib.hid F
  clear F
  by_cases h0 : 0 ≤ n
  · obtain ⟨k, rfl⟩ := Int.eq_ofNat_of_zero_le h0
    have hk : k < 9223372036854775808 := by omega
    rw [decide_eq_true h0, show ((k : Nat) : Int).toNat = k from rfl]
    have hd : decide (((k : Nat) : Int) < 0) = false := decide_eq_false (by omega)
    clear h0 hn
    have HH := Lib.hid hk
    clear hk
    by_cases he : e = 0
    · subst he
      go_enter Try.func70, Try.ntmps70
      go_wp2_with fail
      refine (rNumber_any k _ HH.out).mono ?_
      rintro e1 w1 ⟨v, rfl, hN⟩
      obtain ⟨A, cap, rfl⟩ := owns_slice0 hN.1
      have HN := Lib.hid hN
      clear hN
      go_wp2_with fail
      refine (rputs HF.out HN.out.2 HN.out.bytes (by have := numL_len k; omega)).mono ?_
      rintro e2 w2 hP
      obtain ⟨rfl, hW⟩ := hP
      go_wp2_with fail
      go_ret
      exact ⟨rfl, hW⟩
    · have hne : (e == 0) = false := by simpa using he
      have HE := Lib.hid he
      clear he
      go_enter Try.func70, Try.ntmps70
      go_wp2_with fail
      go_ret
      unfold RPuts putS
      rw [if_pos HE.out]
      exact ⟨rfl, RWrTo.same HF.out (Below.refl _ _)⟩
  · rw [decide_eq_false h0]
    have hd : decide (n < 0) = true := decide_eq_true (by omega)
    have h1 : n < 0 := by omega
    clear hn h0
    by_cases he : e = 0
    · subst he
      go_enter Try.func70, Try.ntmps70
      go_wp2_with fail
      go_ret
      unfold RPuts putS
      rw [if_neg (by simp), if_pos rfl]
      have F1 := HF.out
      exact ⟨rfl, s, ⟨kb_set D _, own_set F1.row hsp, F1.lp, F1.len, F1.l0, F1.l1⟩, (Keep.refl _ w).set (fun _ => .inl rfl) _, fun _ hb => .inl hb⟩
    · have hne : (e == 0) = false := by simpa using he
      have HE := Lib.hid he
      clear he
      go_enter Try.func70, Try.ntmps70
      go_wp2_with fail
      go_ret
      unfold RPuts putS
      rw [if_pos HE.out]
      exact ⟨rfl, RWrTo.same HF.out (Below.refl _ _)⟩

theorem text_bytes (w : World) (t : ByteArray) : Below w.heap.size w (Lib.bytesWorld w 5 t) ∧ BytesOf (Lib.bytesWorld w 5 t) (.slice (some ⟨w.heap.size, 0, none⟩) t.size (grownCap w t.size 0 5)) t.data.toList := by
  have hsz : t.data.toList.length = t.size := by simp
  refine ⟨⟨rfl, rfl, rfl, by rw [Lib.bytesWorld_size]; omega, fun b hb => Lib.bytesWorld_at_old _ _ _ _ hb⟩, _, _, by rw [hsz], u8s_len _, fun h0 => ⟨w.heap.size, 0, rfl, by rw [Lib.bytesWorld_size]; omega, fun j u hu => ?_⟩⟩
  have hj : j < t.size := by have := (List.getElem?_eq_some_iff.1 hu).1; rw [u8s_len, hsz] at this; exact this
  rw [Nat.zero_add, Lib.bytesWorld_cell w _ t j hj]
  rw [u8s_get _ _ (by rw [hsz]; exact hj)] at hu
  rw [← hu]
  simp [u8v, List.getD, hj]

set_option maxHeartbeats 1000000 in
theorem rwWord_any {w : World} {B p : Nat} {lim e : Int} {bs : List UInt8} {s : Value} (n : Nat) (hn : n < 18446744073709551616) (F : RWr w B p lim bs e s) :
    Calls Try.prog 72 #[.pointer (some ⟨p, 0, none⟩), .int .u64 n] w (RPuts w B p lim e bs s true (wrdL n)) := by
  have HF := Lib.hid F
  have HH := Lib.hid hn
  clear F hn
  go_enter Try.func72, Try.ntmps72
  go_wp2_with fail
  refine (rWord_any n _ HH.out).mono ?_
  rintro e1 w1 ⟨v, rfl, hN⟩
  obtain ⟨A1, cap, rfl⟩ := owns_slice0 hN.1
  have HN := Lib.hid hN
  clear hN
  go_wp2_with fail
  refine (rputs HF.out HN.out.2 HN.out.bytes (by rw [wrdL_len]; omega)).mono ?_
  rintro e2 w2 hP
  obtain ⟨rfl, hW⟩ := hP
  go_wp2_with fail
  go_ret
  exact ⟨rfl, hW⟩

theorem canon_lt {b : Nat} (h : b < 18446744073709551616) : canon b < 18446744073709551616 := by
  unfold canon
  split
  · decide
  · exact h

theorem lit0 (w : World) {B : Nat} (hB : B ≤ w.heap.size) : (w.alloc (.cells #[] 5)).ownsRow B 5 1 (.slice (some ⟨w.heap.size, 0, none⟩) 0 0) 0 [] :=
  owns_lit0 (kb_new rfl _) hB rfl

set_option maxRecDepth 100000 in
set_option maxHeartbeats 1000000 in
theorem rwHash_any {w : World} {B p : Nat} {lim e : Int} {bs : List UInt8} {s : Value} (l : List UInt8) (hl : l.length = 32) (F : RWr w B p lim bs e s) :
    Calls Try.prog 71 #[.pointer (some ⟨p, 0, none⟩), .agg (u8s l).toArray] w (RPuts w B p lim e bs s true l) := by
  have HF := Lib.hid F
  obtain ⟨i0, hi, hz0, hz1, hz2⟩ := info_parts infoU
  have hB : BytesOf (w.alloc (.cells (u8s l).toArray 23)) (.slice (some ⟨w.heap.size, 0, none⟩) 32 32) l := by rw [BytesOf, hl]; exact arr_bytes hl
  have HS := Lib.hid (hB.alloc (.cells #[] 5))
  have H1 := lit0 (w.alloc (.cells (u8s l).toArray 23)) (B := w.heap.size) (by simp)
  rw [World.size_alloc] at H1
  have H1 := Lib.hid H1
  clear F hB
  go_enter Try.func71, Try.ntmps71
  go_wp2_with (at_builtin; refine wpList_append_row _ rfl _ _ 58 rfl w.heap.size 5 i0 (.int .u8 0) 1 Try.underlying58 hi hz0 hz1 hz2 rfl _ _ _ rfl (H1.out) _ _ _ rfl (HS.out) (u8s_one _) ?c3 ?c4 ?c5 ?_)
  case c3 => rw [hl]; unfold maxLen; omega
  case c4 => rw [hl]; omega
  case c5 => simp; omega
  intro v' w2 hown' hgrow _ _
  have b0 : Below w.heap.size w ((w.alloc (.cells (u8s l).toArray 23)).alloc (.cells #[] 5)) := by (repeat (with_reducible (first | exact Below.refl _ _ | assumption | refine bl_alloc ?_ _ | refine bl_drew ?_ | refine bl_drewN ?_ _ | (refine bl_set ?_ ?_ _; (focus (first | (simp; done) | (simp; omega) | omega))) | refine bl_then ?_ (by assumption))))
  have b2 : Below w.heap.size w w2 := b0.grown hgrow (by simp; omega) (fun j hj => by simp [Value.ownBlock] at hj; omega)
  obtain ⟨A2, cap2, hv'⟩ := owns_slice0 hown'
  subst hv'
  have HB := Lib.hid (show BytesOf w2 (.slice A2 32 cap2) l by rw [BytesOf, hl]; exact RowOf.of_own hown')
  clear hgrow hown'
  go_wp2_with fail
  refine (rputs HF.out b2 HB.out (by rw [hl]; omega)).mono ?_
  rintro e2 w2 hP
  obtain ⟨rfl, hW⟩ := hP
  go_wp2_with fail
  go_ret
  exact ⟨rfl, hW⟩
set_option maxRecDepth 100000 in
set_option maxHeartbeats 1000000 in
theorem rwDone_ok {w : World} {B p : Nat} {lim : Int} {bs : List UInt8} {s : Value} (F : RWr w B p lim bs 0 s) :
    Calls Try.prog 73 #[.pointer (some ⟨p, 0, none⟩)] w fun e1 w' => ∃ v, e1 = .returned (.tuple #[v, .int .i64 0]) ∧ NewBytes w w' v bs := by
  have D := F.st
  have c := kb_cell D
  have HF := Lib.hid F
  have hlen := F.len
  obtain ⟨i0, hi, hz0, hz1, hz2⟩ := info_parts infoU
  have HS := Lib.hid ((RowOf.of_own F.row).alloc (.cells #[] 5))
  have H1 := Lib.hid (lit0 w (B := w.heap.size) (Nat.le_refl _))
  obtain ⟨A, cap, rfl⟩ := owns_slice0 F.row
  clear F
  go_enter Try.func73, Try.ntmps73
  go_wp2_with (at_builtin; refine wpList_append_row _ rfl _ _ 58 rfl w.heap.size 5 i0 (.int .u8 0) 1 Try.underlying58 hi hz0 hz1 hz2 rfl _ _ _ rfl (H1.out) _ _ _ rfl (HS.out) (u8s_one _) ?c3 ?c4 ?c5 ?_)
  case c3 => unfold maxLen; omega
  case c4 => omega
  case c5 => simp
  intro v' w2 hown' hgrow _ _
  have b0 : Below w.heap.size w (w.alloc (.cells #[] 5)) := by (repeat (with_reducible (first | exact Below.refl _ _ | assumption | refine bl_alloc ?_ _ | refine bl_drew ?_ | refine bl_drewN ?_ _ | (refine bl_set ?_ ?_ _; (focus (first | (simp; done) | (simp; omega) | omega))) | refine bl_then ?_ (by assumption))))
  have b2 : Below w.heap.size w w2 := b0.grown hgrow (by simp) (fun j hj => by simp [Value.ownBlock] at hj; omega)
  obtain ⟨A2, cap2, hv'⟩ := owns_slice0 hown'
  subst hv'
  have HO := Lib.hid hown'
  clear hgrow hown'
  go_wp2_with fail
  go_ret2
  exact ⟨_, rfl, HO.out, b2⟩

set_option maxHeartbeats 1000000 in
theorem rwDone_err {w : World} {B p : Nat} {lim e : Int} {bs : List UInt8} {s : Value} (F : RWr w B p lim bs e s) (he : e ≠ 0) :
    Calls Try.prog 73 #[.pointer (some ⟨p, 0, none⟩)] w fun e1 w' => e1 = .returned (.tuple #[.slice none 0 0, .int .i64 e]) ∧ Below w.heap.size w w' := by
  have D := F.st
  have c := kb_cell D
  have hne : (e != 0) = true := by simpa using he
  have hne' : (e == 0) = false := by simpa using he
  clear F he
  go_enter Try.func73, Try.ntmps73
  go_wp2
  go_quiet (fail)
  go_wp2
  go_ret2
  exact ⟨rfl, by (repeat (with_reducible (first | exact Below.refl _ _ | assumption | refine bl_alloc ?_ _ | refine bl_drew ?_ | refine bl_drewN ?_ _ | (refine bl_set ?_ ?_ _; (focus (first | (simp; done) | (simp; omega) | omega))) | refine bl_then ?_ (by assumption))))⟩

set_option maxHeartbeats 1000000 in
theorem rNewWriter_no (n : Int) (w : World) (h : n < 0 ∨ 1048576 < n) :
    Calls Try.prog 69 #[.int .i64 n] w fun e w' => e = .returned (.tuple #[.pointer none, .int .i64 3]) ∧ w = w' := by
  rcases h with h | h
  · go_enter Try.func69, Try.ntmps69
    go_wp2
    go_ret2
    exact ⟨rfl, rfl⟩
  · have hn : ¬ n < 0 := by omega
    have hd : decide (1048576 < n) = true := decide_eq_true h
    go_enter Try.func69, Try.ntmps69
    go_wp2
    go_ret2
    exact ⟨rfl, rfl⟩

set_option maxHeartbeats 1000000 in
theorem rNewWriter_yes (n : Int) (w : World) (h0 : 0 ≤ n) (h1 : n ≤ 1048576) :
    Calls Try.prog 69 #[.int .i64 n] w fun e w' => e = .returned (.tuple #[.pointer (some ⟨w.heap.size, 0, none⟩), .int .i64 0]) ∧ RWr w' w.heap.size w.heap.size n [] 0 (.slice none 0 0) ∧ Below w.heap.size w w' := by
  have hd : decide (1048576 < n) = false := decide_eq_false (by omega)
  go_enter Try.func69, Try.ntmps69
  go_wp2
  go_ret2
  exact ⟨rfl, ⟨kb_new rfl _, World.ownsRow_nil _ _ _ _, Nat.le_refl _, by simp, h0, h1⟩, by (repeat (with_reducible (first | exact Below.refl _ _ | assumption | refine bl_alloc ?_ _ | refine bl_drew ?_ | refine bl_drewN ?_ _ | (refine bl_set ?_ ?_ _; (focus (first | (simp; done) | (simp; omega) | omega))) | refine bl_then ?_ (by assumption))))⟩
end Go.Proofs.Ytooghjnddifpdaa
end
section
namespace Go.Proofs.Ytooghjnddifpdaa
open Go.RowKit Go.Proofs.Ytooghjnddifpdaa.Wi Go.Proofs.Ytooghjnddifpdaa.Pc
attribute [local go_sem] cell_alloc_some frozen_alloc_some

def wrongV (e f : Int) : Value := .iface 144 (.agg #[.int .i64 e, .int .i64 f])
def Panics (e f : Int) (x : Ending) : Prop := x = .panicked [{ v := wrongV e f, recovered := false }]

theorem must_yes (e f : Int) (w : World) :
    Calls Try.prog 100 #[.bool true, .int .i64 e, .int .i64 f] w fun e1 w' => e1 = .returned (.tuple #[]) ∧ w = w' := by
  go_enter Try.func100, Try.ntmps100
  go_wp2
  go_end0
  exact ⟨rfl, rfl⟩
theorem must_no (e f : Int) (w : World) :
    Calls Try.prog 100 #[.bool false, .int .i64 e, .int .i64 f] w fun e1 w' => e1 = .panicked [{ v := wrongV e f, recovered := false }] ∧ w = w' := by
  go_enter Try.func100, Try.ntmps100
  go_wp2
  exact ⟨rfl, rfl, rfl⟩
def bigL (l : List UInt8) : Nat := l.foldl (fun n c => n * 256 + c.toNat) 0
theorem bigL_snoc (l : List UInt8) (c : UInt8) : bigL (l ++ [c]) = bigL l * 256 + c.toNat := by simp [bigL]
theorem bigL_take (l : List UInt8) (k : Nat) (h : k < l.length) : bigL (l.take (k + 1)) = bigL (l.take k) * 256 + l[k].toNat := by
  rw [List.take_succ_eq_append_getElem h, bigL_snoc]
theorem bigL_lt (l : List UInt8) : ∀ k, k ≤ l.length → bigL (l.take k) < 256 ^ k := by
  intro k
  induction k with
  | zero => simp [bigL]
  | succ k ih => intro h; rw [bigL_take l k (by omega)]; have := l[k].toNat_lt; have := ih (by omega); rw [Nat.pow_succ]; omega

/-- A reader: the struct's block p, its bytes' slice s, the bytes, the place, the fault. -/
structure Rd (w : World) (B p : Nat) (s : Value) (xs : List UInt8) (at' : Nat) (e f : Int) : Prop where
  st : w.heap[p]? = some (.cells #[s, .int .i64 (at' : Int), .int .i64 e, .int .i64 f, .bool true] 112 (0, 0))
  row : w.ownsRow B 5 1 s xs.length (u8s xs)
  lp : B ≤ p
  len : xs.length ≤ 2097152
  le : at' ≤ xs.length

theorem caught_idle (p : Nat) (w : World) :
    CallsD Try.prog 99 #[.pointer (some ⟨p, 0, none⟩)] .returning w fun e u' w' => e = .returned (.tuple #[]) ∧ u' = .returning ∧ w' = w := by
  refine callsD_of_wpS Try.func99 rfl fun c₀ cs hu => ?_
  apply wpS_seq
  apply wpS_region
  generalize hQ : Exit.thenS _ _ = QQ
  simp [wpOpsS, go_sem, recoverD, hu, Try.ntmps99]
  rw [← hQ]
  refine wpS_of_wp ?_
  clear hQ
  simp only [Array.replicate_succ, Array.replicate_zero, List.push_toArray, List.append_toArray, List.nil_append, List.cons_append, List.setIfInBounds_toArray, List.set_cons_zero, List.set_cons_succ]
  have hq : ∀ a : Act, a.defers = [] → bodyPostS Try.prog Try.f99 c₀ cs (fun e u' w' => e = Ending.returned (Value.tuple #[]) ∧ u' = FrameMode.returning ∧ w' = w) .normal a (c₀ :: cs) w := by
    intro a ha
    refine ⟨ha, .returning, by cases c₀; simp_all, _, results_none rfl _ _ _, rfl, rfl, rfl⟩
  generalize hP : (fun e a' w' => bodyPostS Try.prog Try.f99 c₀ cs (fun e u' w' => e = Ending.returned (Value.tuple #[]) ∧ u' = FrameMode.returning ∧ w' = w) e a' (c₀ :: cs) w') = Q2
  have hq2 : ∀ a : Act, a.defers = [] → Q2 .normal a w := fun a ha => by rw [← hP]; exact hq a ha
  have H := Lib.hid hq2
  clear hP hq hu hq2
  go_wp2
  exact H.out _ rfl

theorem assert_wrong (W : World) (v : Value) : (Instr.typeAssert (.iface 144 v) 20 144 true).run Try.prog W = .ok (.tuple #[v, .bool true]) W := by kernel_rfl
set_option maxRecDepth 100000 in
theorem caught_wrong {w : World} {p : Nat} {s : Value} {at' : Nat} {e0 f0 : Int} (st : w.heap[p]? = some (.cells #[s, .int .i64 (at' : Int), .int .i64 e0, .int .i64 f0, .bool true] 112 (0, 0))) (e f : Int) (older : List PanicEntry) :
    CallsD Try.prog 99 #[.pointer (some ⟨p, 0, none⟩)] (.panicking ({ v := wrongV e f, recovered := false } :: older)) w fun e1 u' w' =>
      e1 = .returned (.tuple #[]) ∧ u' = .panicking ({ v := wrongV e f, recovered := true } :: older) ∧ ∃ o, w' = ((w.setCell ⟨p, 2, none⟩ (.int .i64 e)).setCell ⟨p, 3, none⟩ (.int .i64 f)).alloc o := by
  have c := kb_cell st
  have z := kb_frozen st
  have hlt := kb_lt st
  refine callsD_of_wpS Try.func99 rfl fun c₀ cs hu => ?_
  apply wpS_seq
  apply wpS_region
  generalize hQ : Exit.thenS _ _ = QQ
  simp [wpOpsS, go_sem, recoverD, hu, Try.ntmps99]
  rw [← hQ]
  refine wpS_of_wp ?_
  clear hQ
  simp only [Array.replicate_succ, Array.replicate_zero, List.push_toArray, List.append_toArray, List.nil_append, List.cons_append, List.setIfInBounds_toArray, List.set_cons_zero, List.set_cons_succ]
  have hq : ∀ (a : Act) (o : Obj), a.defers = [] → bodyPostS Try.prog Try.f99 c₀ cs (fun e1 u' w' => e1 = Ending.returned (Value.tuple #[]) ∧ u' = FrameMode.panicking ({ v := wrongV e f, recovered := true } :: older) ∧ ∃ o, w' = ((w.setCell ⟨p, 2, none⟩ (.int .i64 e)).setCell ⟨p, 3, none⟩ (.int .i64 f)).alloc o) .normal a ({ c₀ with mode := FrameMode.panicking ({ v := wrongV e f, recovered := true } :: older) } :: cs) (((w.setCell ⟨p, 2, none⟩ (.int .i64 e)).setCell ⟨p, 3, none⟩ (.int .i64 f)).alloc o) := by
    intro a o ha
    exact ⟨ha, _, rfl, _, results_none rfl _ _ _, rfl, rfl, o, rfl⟩
  generalize hP : (fun e1 a' w' => bodyPostS Try.prog Try.f99 c₀ cs (fun e1 u' w' => e1 = Ending.returned (Value.tuple #[]) ∧ u' = FrameMode.panicking ({ v := wrongV e f, recovered := true } :: older) ∧ ∃ o, w' = ((w.setCell ⟨p, 2, none⟩ (.int .i64 e)).setCell ⟨p, 3, none⟩ (.int .i64 f)).alloc o) e1 a' ({ c₀ with mode := FrameMode.panicking ({ v := wrongV e f, recovered := true } :: older) } :: cs) w') = Q2
  have hq2 : ∀ (a : Act) (o : Obj), a.defers = [] → Q2 .normal a (((w.setCell ⟨p, 2, none⟩ (.int .i64 e)).setCell ⟨p, 3, none⟩ (.int .i64 f)).alloc o) := fun a o ha => by rw [← hP]; exact hq a o ha
  have H := Lib.hid hq2
  clear hP hq hu hq2
  have ha := fun W => assert_wrong W (.agg #[.int .i64 e, .int .i64 f])
  unfold wrongV
  go_wp2
  exact H.out _ _ rfl

theorem shl8 {n : Nat} (h : n < 72057594037927936) {c : Nat} (hc : c < 256) : bits .or .u64 (IntKind.u64.wrap ((n : Int) * 256)) (IntKind.u64.wrap (c : Int)) = ((n * 256 + c : Nat) : Int) := by
  have h1 : IntKind.u64.wrap ((n : Int) * 256) = ((n * 256 : Nat) : Int) := by rw [IntWalk.u64_in] <;> omega
  have h2 : IntKind.u64.wrap (c : Int) = (c : Int) := by rw [IntWalk.u64_in]; omega
  rw [h1, h2]
  have := Nat.two_pow_add_eq_or_of_lt (i := 8) (b := c) (by omega) n
  have hb : IntKind.u64.bits = 64 := rfl
  have e1 : (((n : Int) * 256) % 2 ^ IntKind.u64.bits).toNat = 2 ^ 8 * n := by rw [hb]; omega
  have e2 : c % 2 ^ IntKind.u64.bits = c := by rw [hb]; omega
  simp only [bits]
  simp
  rw [e1, e2, ← this, IntWalk.u64_in] <;> omega

set_option maxHeartbeats 1000000 in
theorem big_any {w : World} {v : Value} {l : List UInt8} (h : BytesOf w v l) (hl : l.length ≤ 8) :
    Calls Try.prog 88 #[v] w fun e1 w' => e1 = .returned (.int .u64 (bigL l : Int)) ∧ w = w' := by
  obtain ⟨A, cap, rfl, _, hc⟩ := h
  go_enter Try.func88, Try.ntmps88
  go_wp2
  go_loopw [2, 4, 7, 8, 9, 10, 11, 12, 13, 14, 15, 16] (fun s2 _ s7 _ _ _ _ _ _ _ _ _ wr => ∃ i : Nat, i ≤ l.length ∧ s7 = .int .i64 i ∧ s2 = .int .u64 (bigL (l.take i) : Int) ∧ w = wr) (fun _ _ s7 _ _ _ _ _ _ _ _ _ _ => l.length - (intOf s7).toNat)
  case atStart => exact ⟨0, by omega, rfl, rfl, rfl⟩
  case round =>
    obtain ⟨i, hi, rfl, rfl, rfl⟩ := hrel
    have hlt8 := bigL_lt l i hi
    by_cases hlt : i < l.length
    · obtain ⟨b, off, rfl, _, hcc⟩ := hc (by omega)
      have hil : ((i : Nat) : Int) < (l.length : Int) := by omega
      have c0 := hcc i _ (u8s_get l i hlt)
      have hHC := Lib.hid hc
      have h7 : bigL (l.take i) < 72057594037927936 := Nat.lt_of_lt_of_le hlt8 (Nat.le_trans (Nat.pow_le_pow_right (by omega) (show i ≤ 7 by omega)) (by omega))
      have hH7 := Lib.hid h7
      have hs := shl8 h7 (l[i].toNat_lt)
      have hT := bigL_take l i hlt
      unfold u8v at c0
      generalize hN : bigL (l.take i) = N at *
      generalize hM : bigL (l.take (i + 1)) = M at *
      clear hc hcc h7 hlt8
      go_wp2
      exact ⟨⟨i + 1, by omega, by go_num, by rw [hM, hT]; simp, trivial⟩, by simp [intOf]; omega⟩
    · obtain rfl : i = l.length := by omega
      rw [List.take_length]
      clear hc
      go_wp2
      go_ret
      exact ⟨rfl, rfl⟩
end Go.Proofs.Ytooghjnddifpdaa
end
section
namespace Go.Proofs.Ytooghjnddifpdaa
open Go.RowKit Go.Proofs.Ytooghjnddifpdaa.Wi Go.Proofs.Ytooghjnddifpdaa.Pc
attribute [local go_sem] cell_alloc_some frozen_alloc_some
set_option linter.unusedSimpArgs false
set_option linter.unusedVariables false

theorem Rd.keep {w w' : World} {B p s xs a e f} {S : Nat → Prop} (h : Rd w B p s xs a e f) (k : Keep S w w') (h1 : ¬ S p) (h2 : ∀ b, s.ownBlock = some b → ¬ S b) : Rd w' B p s xs a e f where
  st := k.kb h.st h1
  row := k.row h.row h2
  lp := h.lp
  len := h.len
  le := h.le
theorem Rd.below {w w' : World} {B p s xs a e f} (h : Rd w B p s xs a e f) (k : Below w.heap.size w w') : Rd w' B p s xs a e f := h.keep (S := fun _ => False) (Keep.of_below k) (fun x => x) fun _ _ x => x
theorem Rd.put {w : World} {B p s xs a e f} (h : Rd w B p s xs a e f) (a' : Nat) (h' : a' ≤ xs.length) : Rd (w.setCell ⟨p, 1, none⟩ (.int .i64 (a' : Int))) B p s xs a' e f where
  st := kb_set h.st _
  row := own_set h.row (own_ne h.row h.st (by decide))
  lp := h.lp
  len := h.len
  le := h'
/-- What is left of a reader behind a part of a reading. -/
def RdTo (S : Nat → Prop) (w w' : World) (B p : Nat) (s : Value) (xs : List UInt8) (a : Nat) : Prop := Rd w' B p s xs a 0 0 ∧ Keep S w w'
inductive Rs (α : Type) where
  | ok (v : α) (a : Nat) : Rs α
  | bad (e f : Nat) : Rs α
/-- How a part of a reading ends. -/
def Takes {α : Type} (w : World) (B p : Nat) (s : Value) (xs : List UInt8) (r : Rs α) (V : α → World → Value → Prop) : Ending → World → Prop := fun e w' =>
  match r with
  | .ok v a => ∃ u, e = .returned u ∧ V v w' u ∧ RdTo (fun b => b = p) w w' B p s xs a
  | .bad er f => e = .panicked [{ v := wrongV er f, recovered := false }] ∧ ∃ a, RdTo (fun b => b = p) w w' B p s xs a
/-- A part of a row reads as bytes. -/
theorem sub_bytes {w : World} {B e n : Nat} {v : Value} {xs : List UInt8} (h : w.ownsRow B e 1 v n (u8s xs)) (a k : Nat) (hk : a + k ≤ xs.length) {A : Option Addr} {c : Nat} (hv : v = .slice A n c) (A' : Option Addr) (c' : Nat) (hA : 0 < k → ∃ g, A = some ⟨g, 0, none⟩ ∧ A' = some ⟨g, a, none⟩) :
    BytesOf w (.slice A' k c') ((xs.drop a).take k) := by
  have hl : ((xs.drop a).take k).length = k := by rw [List.length_take, List.length_drop]; omega
  refine ⟨A', c', by rw [hl], by rw [u8s_len], fun h0 => ?_⟩
  obtain ⟨g, rfl, rfl⟩ := hA (by omega)
  subst hv
  refine ⟨g, a, rfl, (h.lt g rfl).2, fun j u hu => ?_⟩
  have hj : j < k := by
    have := (List.getElem?_eq_some_iff.1 hu).1
    rw [u8s_len, List.length_take] at this; omega
  have := h.cells (g := g) rfl (a + j) u (by rw [← u8s_take, ← u8s_drop, List.getElem?_take_of_lt hj, List.getElem?_drop] at hu; exact hu)
  rwa [addr_add, Nat.zero_add] at this

set_option maxHeartbeats 1000000 in
theorem take8_short {w : World} {B p : Nat} {s : Value} {xs : List UInt8} {a : Nat} (n : Nat) (f : Int) (mk : Value) (F : Rd w B p s xs a 0 0) (hn : xs.length < a + n) (h63 : n < 9223372036854775808) :
    Calls Try.prog 87 #[.pointer (some ⟨p, 0, none⟩), .int .i64 n, .int .i64 f, mk] w fun e w' => e = .panicked [{ v := wrongV 6 f, recovered := false }] ∧ Below w.heap.size w w' := by
  obtain ⟨A, cap, rfl⟩ := (RowOf.of_own F.row).form
  have c0 := kb_cell F.st 0
  have c1 := kb_cell F.st 1
  simp at c0 c1
  have hd : decide ((n : Int) ≤ (xs.length : Int) - (a : Int)) = false := decide_eq_false (by omega)
  have hw : IntKind.i64.wrap ((xs.length : Int) - (a : Int)) = (xs.length : Int) - (a : Int) := IntWalk.i64_in _ (by have := F.len; have := F.le; omega)
  clear F
  go_enter Try.func87, Try.ntmps87
  go_wp2
  refine wp_region_held_drew (S := (fun W : World => W.cell? ⟨p, 0, none⟩ = some (.slice A xs.length cap) ∧ W.cell? ⟨p, 1, none⟩ = some (.int .i64 (a : Int)))) (by kernel_rfl) ⟨c0, c1⟩ (fun hHeld => ?_)
  refine wpAnyH_take (i := 0) (oi := _) (v := ?_) rfl (by kernel_rfl) (by kernel_rfl) (by kernel_rfl) (fun _ _ _ h => h) (Or.inl ⟨by rfl, ?_⟩) hHeld ?_
  rotate_left
  · (intro w hSw; (try dsimp only at hSw); go_simp); all_goals with_reducible rfl
  try simp only [Act.put, List.setIfInBounds_toArray, List.set_cons_zero, List.set_cons_succ]
  refine wpAnyH_take (i := 1) (oi := _) (v := ?_) rfl (by kernel_rfl) (by kernel_rfl) (by kernel_rfl) (fun _ _ _ h => h) (Or.inl ⟨by rfl, ?_⟩) hHeld ?_
  rotate_left
  · (intro w hSw; (try dsimp only at hSw); go_simp); all_goals with_reducible rfl
  try simp only [Act.put, List.setIfInBounds_toArray, List.set_cons_zero, List.set_cons_succ]
  refine wpAnyH_take (i := 2) (oi := _) (v := ?_) rfl (by kernel_rfl) (by kernel_rfl) (by kernel_rfl) (fun _ _ _ h => h) (Or.inl ⟨by rfl, ?_⟩) hHeld ?_
  rotate_left
  · (intro w hSw; (try dsimp only at hSw); go_simp); all_goals with_reducible rfl
  try simp only [Act.put, List.setIfInBounds_toArray, List.set_cons_zero, List.set_cons_succ]
  refine wpAnyH_take (i := 3) (oi := _) (v := ?_) rfl (by kernel_rfl) (by kernel_rfl) (by kernel_rfl) (fun _ _ _ h => h) (Or.inl ⟨by rfl, ?_⟩) hHeld ?_
  rotate_left
  · (intro w hSw; (try dsimp only at hSw); go_simp); all_goals with_reducible rfl
  try simp only [Act.put, List.setIfInBounds_toArray, List.set_cons_zero, List.set_cons_succ]
  refine wpAnyH_take (i := 4) (oi := _) (v := ?_) rfl (by kernel_rfl) (by kernel_rfl) (by kernel_rfl) (fun _ _ _ h => h) (Or.inl ⟨by rfl, ?_⟩) hHeld ?_
  rotate_left
  · (intro w hSw; (try dsimp only at hSw); go_simp); all_goals with_reducible rfl
  try simp only [Act.put, List.setIfInBounds_toArray, List.set_cons_zero, List.set_cons_succ]
  refine wpAnyH_take (i := 5) (oi := _) (v := ?_) rfl (by kernel_rfl) (by kernel_rfl) (by kernel_rfl) (fun _ _ _ h => h) (Or.inl ⟨by rfl, ?_⟩) hHeld ?_
  rotate_left
  · (intro w hSw; (try dsimp only at hSw); go_simp); all_goals with_reducible rfl
  try simp only [Act.put, List.setIfInBounds_toArray, List.set_cons_zero, List.set_cons_succ]
  refine wpAnyH_take (i := 6) (oi := _) (v := ?_) rfl (by kernel_rfl) (by kernel_rfl) (by kernel_rfl) (fun _ _ _ h => h) (Or.inl ⟨by rfl, ?_⟩) hHeld ?_
  rotate_left
  · (intro w hSw; (try dsimp only at hSw); go_simp); all_goals with_reducible rfl
  try simp only [Act.put, List.setIfInBounds_toArray, List.set_cons_zero, List.set_cons_succ]
  refine wpAnyH_take (i := 7) (oi := _) (v := ?_) rfl (by kernel_rfl) (by kernel_rfl) (by kernel_rfl) (fun _ _ _ h => h) (Or.inl ⟨by rfl, ?_⟩) hHeld ?_
  rotate_left
  · (intro w hSw; (try dsimp only at hSw); go_simp); all_goals with_reducible rfl
  try simp only [Act.put, List.setIfInBounds_toArray, List.set_cons_zero, List.set_cons_succ]
  refine wpAnyH_take (i := 8) (oi := _) (v := ?_) rfl (by kernel_rfl) (by kernel_rfl) (by kernel_rfl) (fun _ _ _ h => h) (Or.inl ⟨by rfl, ?_⟩) hHeld ?_
  rotate_left
  · (intro w hSw; (try dsimp only at hSw); go_simp); all_goals with_reducible rfl
  try simp only [Act.put, List.setIfInBounds_toArray, List.set_cons_zero, List.set_cons_succ]
  refine wpAnyH_take (i := 9) (oi := _) (v := ?_) rfl (by kernel_rfl) (by kernel_rfl) (by kernel_rfl) (fun _ _ _ h => h) (Or.inl ⟨by rfl, ?_⟩) hHeld ?_
  rotate_left
  · (intro w hSw; (try dsimp only at hSw); go_simp); all_goals with_reducible rfl
  try simp only [Act.put, List.setIfInBounds_toArray, List.set_cons_zero, List.set_cons_succ]
  refine wpAnyH_take (i := 10) (oi := _) (v := ?_) rfl (by kernel_rfl) (by kernel_rfl) (by kernel_rfl) (fun _ _ _ h => h) (Or.inl ⟨by rfl, ?_⟩) hHeld ?_
  rotate_left
  · (intro w hSw; (try dsimp only at hSw); go_simp); all_goals with_reducible rfl
  try simp only [Act.put, List.setIfInBounds_toArray, List.set_cons_zero, List.set_cons_succ]
  refine wpAnyH_take (i := 11) (oi := _) (v := ?_) rfl (by kernel_rfl) (by kernel_rfl) (by kernel_rfl) (fun _ _ _ h => h) (Or.inl ⟨by rfl, ?_⟩) hHeld ?_
  rotate_left
  · (intro w hSw; (try dsimp only at hSw); go_simp); all_goals with_reducible rfl
  try simp only [Act.put, List.setIfInBounds_toArray, List.set_cons_zero, List.set_cons_succ]
  refine wpAnyH_take (i := 12) (oi := _) (v := ?_) rfl (by kernel_rfl) (by kernel_rfl) (by kernel_rfl) (fun _ _ _ h => h) (Or.inl ⟨by rfl, ?_⟩) hHeld ?_
  rotate_left
  · (intro w hSw; (try dsimp only at hSw); go_simp); all_goals with_reducible rfl
  try simp only [Act.put, List.setIfInBounds_toArray, List.set_cons_zero, List.set_cons_succ]
  refine wpAnyH_ready (rs := [13]) (by kernel_rfl) (by simp) (AllReadyH.cons (o := _) rfl (fun K hK => ?_) AllReadyH.nil)
  go_simp
  refine (must_no _ _ _).mono ?_
  rintro e w' ⟨rfl, rfl⟩
  exact ⟨rfl, rfl, bl_drew (Below.refl _ _)⟩
theorem part_run {w : World} {B : Nat} {A : Option Addr} {cap : Nat} {xs : List UInt8} (h : w.ownsRow B 5 1 (.slice A xs.length cap) xs.length (u8s xs)) (a n : Nat) (hk : a + n ≤ xs.length) :
    ∃ A', (∀ W : World, (Instr.sliceAt 58 (.slice A xs.length cap) (some (.int .i64 (a : Int))) (some (.int .i64 ((a : Int) + (n : Int)))) none).run Try.prog W = .ok (.slice A' n (cap - a)) W) ∧
      ∀ W : World, W.ownsRow B 5 1 (.slice A xs.length cap) xs.length (u8s xs) → BytesOf W (.slice A' n (cap - a)) ((xs.drop a).take n) ∧ ∀ g, (Value.slice A' n (cap - a)).ownBlock = some g → (Value.slice A xs.length cap).ownBlock = some g := by
  have hA : xs.length ≤ cap ∧ (0 < xs.length → ∃ g, A = some ⟨g, 0, none⟩) := by
    rcases h.2 with ⟨e, h0⟩ | ⟨g, c, cur, e, _, _, h1, h2, _, _⟩
    · simp only [Value.slice.injEq] at e; omega
    · simp only [Value.slice.injEq] at e
      obtain ⟨rfl, _, rfl⟩ := e
      exact ⟨by omega, fun _ => ⟨g, rfl⟩⟩
  refine ⟨if cap = a then A else A.map (·.add a), fun W => ?_, fun W hW => ?_⟩
  · have hel : Try.prog.elem 58 = 5 := by kernel_rfl
    have hue : Try.prog.underlying 58 = some (.slice (Try.prog.elem 58)) := by rw [hel]; exact Try.underlying58
    rw [run_sliceAt_slice W _ _ _ _ _ hue, run_slice_lh W _ _ _ _ hue _ _ _ _ (by omega) (by omega) (by omega), hel]
    obtain ⟨i0, hi, hz0, hz1, hz2⟩ := info_parts infoU
    have hsz : (sizeOf 5).run Try.prog W = .ok 1 W := by simp [sizeOf, typeInfo, hi, hz1]
    rw [hsz]
    have h4 : ((a : Int) + (n : Int)).toNat = a + n := by omega
    simp [Result.andThen, sliced, h4]
  · refine ⟨sub_bytes hW a n hk rfl _ _ fun h0 => ?_, fun g hg => by
      cases A with
      | none => split at hg <;> simp [Value.ownBlock] at hg
      | some x =>
        split at hg
        · exact hg
        · have hxb : (x.add a).block = x.block := by unfold Addr.add; split <;> simp_all
          simpa [Value.ownBlock, hxb] using hg⟩
    obtain ⟨g, rfl⟩ := hA.2 (by omega)
    refine ⟨g, rfl, ?_⟩
    rw [if_neg (by omega), Option.map_some, addr_add, Nat.zero_add]

/-- What take wants of the function that makes something of the bytes. -/
def Makes (S : Nat → Prop) (w : World) (B p : Nat) (s : Value) (xs : List UInt8) (a n : Nat) (k : Nat) (cap : Array Value) (V : World → Value → Prop) : Prop :=
  (∀ (args : Array Value) (W : World), (callFunc k args).run Try.prog W = .ok (.enter k args) W) ∧
  ∀ w1 v, RdTo (fun b => b = p) w w1 B p s xs (a + n) → BytesOf w1 v ((xs.drop a).take n) → (∀ g, v.ownBlock = some g → s.ownBlock = some g) → Calls Try.prog k (#[v] ++ cap) w1 fun e w' => ∃ u, e = .returned u ∧ V w' u ∧ RdTo S w w' B p s xs (a + n)

set_option maxRecDepth 100000 in
set_option maxHeartbeats 1000000 in
theorem take8_ok {w : World} {B p : Nat} {s : Value} {xs : List UInt8} {a : Nat} (n : Nat) (f : Int) (k : Nat) (cap : Array Value) {V : World → Value → Prop} {S : Nat → Prop} (F : Rd w B p s xs a 0 0) (hn : a + n ≤ xs.length) (hK : Makes S w B p s xs a n k cap V) :
    Calls Try.prog 87 #[.pointer (some ⟨p, 0, none⟩), .int .i64 n, .int .i64 f, .func (.func k) #[] cap] w fun e w' => ∃ u, e = .returned u ∧ V w' u ∧ RdTo S w w' B p s xs (a + n) := by
  obtain ⟨A, c, rfl⟩ := (RowOf.of_own F.row).form
  have c0 := kb_cell F.st 0
  have c1 := kb_cell F.st 1
  simp at c0 c1
  have z1 : w.frozen? ⟨p, 1, none⟩ = false := kb_frozen F.st 1
  have hle := F.len
  have hd : decide ((n : Int) ≤ (xs.length : Int) - (a : Int)) = true := decide_eq_true (by omega)
  have hw : IntKind.i64.wrap ((xs.length : Int) - (a : Int)) = (xs.length : Int) - (a : Int) := IntWalk.i64_in _ (by have := F.len; have := F.le; omega)
  have hw2 : IntKind.i64.wrap ((a : Int) + (n : Int)) = (a : Int) + (n : Int) := IntWalk.i64_in _ (by omega)
  have hw3 : IntKind.i64.wrap ((a : Int) + (n : Int) - (n : Int)) = (a : Int) := by rw [IntWalk.i64_in _ (by omega)]; omega
  have hw4 : IntKind.i64.wrap (a : Int) = (a : Int) := IntWalk.i64_in _ (by omega)
  obtain ⟨A', hsl, hsb⟩ := part_run F.row a n hn
  have F1 := F.put (a + n) hn
  rw [Int.natCast_add] at F1
  have d0 : (w.setCell ⟨p, 1, none⟩ (.int .i64 ((a : Int) + (n : Int)))).cell? ⟨p, 0, none⟩ = some (.slice A xs.length c) := by have := kb_cell F1.st 0; simpa using this
  have d1 : (w.setCell ⟨p, 1, none⟩ (.int .i64 ((a : Int) + (n : Int)))).cell? ⟨p, 1, none⟩ = some (.int .i64 ((a : Int) + (n : Int))) := by have := kb_cell F1.st 1; simpa using this
  have H1 := Lib.hid F1
  have hRT : RdTo (fun b => b = p) w (w.setCell ⟨p, 1, none⟩ (.int .i64 ((a : Int) + (n : Int)))).drew.drew B p (.slice A xs.length c) xs (a + n) := ⟨F1.below (bl_drew (bl_drew (Below.refl _ _))), ((Keep.refl (fun b => b = p) w).set (p := ⟨p, 1, none⟩) (fun _ => rfl) _).drew.drew⟩
  have HR := Lib.hid hRT
  clear F1 hRT
  obtain ⟨eK, hC⟩ := hK
  have HC := Lib.hid hC
  have HF := Lib.hid F
  have HB := Lib.hid hsb
  clear F hsb hC
  go_enter Try.func87, Try.ntmps87
  go_wp2
  refine wp_region_held_drew (S := (fun W : World => W.cell? ⟨p, 0, none⟩ = some (.slice A xs.length c) ∧ W.cell? ⟨p, 1, none⟩ = some (.int .i64 (a : Int)))) (by kernel_rfl) ⟨c0, c1⟩ (fun hHeld => ?_)
  refine wpAnyH_take (i := 0) (oi := _) (v := ?_) rfl (by kernel_rfl) (by kernel_rfl) (by kernel_rfl) (fun _ _ _ h => h) (Or.inl ⟨by rfl, ?_⟩) hHeld ?_
  rotate_left
  · (intro w hSw; (try dsimp only at hSw); go_simp); all_goals with_reducible rfl
  try simp only [Act.put, List.setIfInBounds_toArray, List.set_cons_zero, List.set_cons_succ]
  refine wpAnyH_take (i := 1) (oi := _) (v := ?_) rfl (by kernel_rfl) (by kernel_rfl) (by kernel_rfl) (fun _ _ _ h => h) (Or.inl ⟨by rfl, ?_⟩) hHeld ?_
  rotate_left
  · (intro w hSw; (try dsimp only at hSw); go_simp); all_goals with_reducible rfl
  try simp only [Act.put, List.setIfInBounds_toArray, List.set_cons_zero, List.set_cons_succ]
  refine wpAnyH_take (i := 2) (oi := _) (v := ?_) rfl (by kernel_rfl) (by kernel_rfl) (by kernel_rfl) (fun _ _ _ h => h) (Or.inl ⟨by rfl, ?_⟩) hHeld ?_
  rotate_left
  · (intro w hSw; (try dsimp only at hSw); go_simp); all_goals with_reducible rfl
  try simp only [Act.put, List.setIfInBounds_toArray, List.set_cons_zero, List.set_cons_succ]
  refine wpAnyH_take (i := 3) (oi := _) (v := ?_) rfl (by kernel_rfl) (by kernel_rfl) (by kernel_rfl) (fun _ _ _ h => h) (Or.inl ⟨by rfl, ?_⟩) hHeld ?_
  rotate_left
  · (intro w hSw; (try dsimp only at hSw); go_simp); all_goals with_reducible rfl
  try simp only [Act.put, List.setIfInBounds_toArray, List.set_cons_zero, List.set_cons_succ]
  refine wpAnyH_take (i := 4) (oi := _) (v := ?_) rfl (by kernel_rfl) (by kernel_rfl) (by kernel_rfl) (fun _ _ _ h => h) (Or.inl ⟨by rfl, ?_⟩) hHeld ?_
  rotate_left
  · (intro w hSw; (try dsimp only at hSw); go_simp); all_goals with_reducible rfl
  try simp only [Act.put, List.setIfInBounds_toArray, List.set_cons_zero, List.set_cons_succ]
  refine wpAnyH_take (i := 5) (oi := _) (v := ?_) rfl (by kernel_rfl) (by kernel_rfl) (by kernel_rfl) (fun _ _ _ h => h) (Or.inl ⟨by rfl, ?_⟩) hHeld ?_
  rotate_left
  · (intro w hSw; (try dsimp only at hSw); go_simp); all_goals with_reducible rfl
  try simp only [Act.put, List.setIfInBounds_toArray, List.set_cons_zero, List.set_cons_succ]
  refine wpAnyH_take (i := 6) (oi := _) (v := ?_) rfl (by kernel_rfl) (by kernel_rfl) (by kernel_rfl) (fun _ _ _ h => h) (Or.inl ⟨by rfl, ?_⟩) hHeld ?_
  rotate_left
  · (intro w hSw; (try dsimp only at hSw); go_simp); all_goals with_reducible rfl
  try simp only [Act.put, List.setIfInBounds_toArray, List.set_cons_zero, List.set_cons_succ]
  refine wpAnyH_take (i := 7) (oi := _) (v := ?_) rfl (by kernel_rfl) (by kernel_rfl) (by kernel_rfl) (fun _ _ _ h => h) (Or.inl ⟨by rfl, ?_⟩) hHeld ?_
  rotate_left
  · (intro w hSw; (try dsimp only at hSw); go_simp); all_goals with_reducible rfl
  try simp only [Act.put, List.setIfInBounds_toArray, List.set_cons_zero, List.set_cons_succ]
  refine wpAnyH_take (i := 8) (oi := _) (v := ?_) rfl (by kernel_rfl) (by kernel_rfl) (by kernel_rfl) (fun _ _ _ h => h) (Or.inl ⟨by rfl, ?_⟩) hHeld ?_
  rotate_left
  · (intro w hSw; (try dsimp only at hSw); go_simp); all_goals with_reducible rfl
  try simp only [Act.put, List.setIfInBounds_toArray, List.set_cons_zero, List.set_cons_succ]
  refine wpAnyH_take (i := 9) (oi := _) (v := ?_) rfl (by kernel_rfl) (by kernel_rfl) (by kernel_rfl) (fun _ _ _ h => h) (Or.inl ⟨by rfl, ?_⟩) hHeld ?_
  rotate_left
  · (intro w hSw; (try dsimp only at hSw); go_simp); all_goals with_reducible rfl
  try simp only [Act.put, List.setIfInBounds_toArray, List.set_cons_zero, List.set_cons_succ]
  refine wpAnyH_take (i := 10) (oi := _) (v := ?_) rfl (by kernel_rfl) (by kernel_rfl) (by kernel_rfl) (fun _ _ _ h => h) (Or.inl ⟨by rfl, ?_⟩) hHeld ?_
  rotate_left
  · (intro w hSw; (try dsimp only at hSw); go_simp); all_goals with_reducible rfl
  try simp only [Act.put, List.setIfInBounds_toArray, List.set_cons_zero, List.set_cons_succ]
  refine wpAnyH_take (i := 11) (oi := _) (v := ?_) rfl (by kernel_rfl) (by kernel_rfl) (by kernel_rfl) (fun _ _ _ h => h) (Or.inl ⟨by rfl, ?_⟩) hHeld ?_
  rotate_left
  · (intro w hSw; (try dsimp only at hSw); go_simp); all_goals with_reducible rfl
  try simp only [Act.put, List.setIfInBounds_toArray, List.set_cons_zero, List.set_cons_succ]
  refine wpAnyH_take (i := 12) (oi := _) (v := ?_) rfl (by kernel_rfl) (by kernel_rfl) (by kernel_rfl) (fun _ _ _ h => h) (Or.inl ⟨by rfl, ?_⟩) hHeld ?_
  rotate_left
  · (intro w hSw; (try dsimp only at hSw); go_simp); all_goals with_reducible rfl
  try simp only [Act.put, List.setIfInBounds_toArray, List.set_cons_zero, List.set_cons_succ]
  refine wpAnyH_ready (rs := [13]) (by kernel_rfl) (by simp) (AllReadyH.cons (o := _) rfl (fun K hK => ?_) AllReadyH.nil)
  go_simp
  refine (must_yes _ _ _).mono ?_
  rintro e w' ⟨rfl, rfl⟩
  refine hK.out _ _ ⟨c0, c1⟩ (fun hHeld => ?_)
  refine wpAnyH_done (by kernel_rfl) ?_ _
  go_wp2
  refine wp_region_held_drew (S := (fun W : World => W.cell? ⟨p, 0, none⟩ = some (.slice A xs.length c) ∧ W.cell? ⟨p, 1, none⟩ = some (.int .i64 ((a : Int) + (n : Int))))) (by kernel_rfl) ⟨d0, d1⟩ (fun hHeld => ?_)
  refine wpAnyH_take (i := 0) (oi := _) (v := ?_) rfl (by kernel_rfl) (by kernel_rfl) (by kernel_rfl) (fun _ _ _ h => h) (Or.inl ⟨by rfl, ?_⟩) hHeld ?_
  rotate_left
  · (intro w hSw; (try dsimp only at hSw); go_simp); all_goals with_reducible rfl
  try simp only [Act.put, List.setIfInBounds_toArray, List.set_cons_zero, List.set_cons_succ]
  refine wpAnyH_take (i := 1) (oi := _) (v := ?_) rfl (by kernel_rfl) (by kernel_rfl) (by kernel_rfl) (fun _ _ _ h => h) (Or.inl ⟨by rfl, ?_⟩) hHeld ?_
  rotate_left
  · (intro w hSw; (try dsimp only at hSw); go_simp); all_goals with_reducible rfl
  try simp only [Act.put, List.setIfInBounds_toArray, List.set_cons_zero, List.set_cons_succ]
  refine wpAnyH_take (i := 2) (oi := _) (v := ?_) rfl (by kernel_rfl) (by kernel_rfl) (by kernel_rfl) (fun _ _ _ h => h) (Or.inl ⟨by rfl, ?_⟩) hHeld ?_
  rotate_left
  · (intro w hSw; (try dsimp only at hSw); go_simp); all_goals with_reducible rfl
  try simp only [Act.put, List.setIfInBounds_toArray, List.set_cons_zero, List.set_cons_succ]
  refine wpAnyH_take (i := 3) (oi := _) (v := ?_) rfl (by kernel_rfl) (by kernel_rfl) (by kernel_rfl) (fun _ _ _ h => h) (Or.inl ⟨by rfl, ?_⟩) hHeld ?_
  rotate_left
  · (intro w hSw; (try dsimp only at hSw); go_simp); all_goals with_reducible rfl
  try simp only [Act.put, List.setIfInBounds_toArray, List.set_cons_zero, List.set_cons_succ]
  refine wpAnyH_take (i := 4) (oi := _) (v := ?_) rfl (by kernel_rfl) (by kernel_rfl) (by kernel_rfl) (fun _ _ _ h => h) (Or.inl ⟨by rfl, ?_⟩) hHeld ?_
  rotate_left
  · (intro w hSw; (try dsimp only at hSw); go_simp); all_goals with_reducible rfl
  try simp only [Act.put, List.setIfInBounds_toArray, List.set_cons_zero, List.set_cons_succ]
  refine wpAnyH_take (i := 5) (oi := _) (v := ?_) rfl (by kernel_rfl) (by kernel_rfl) (by kernel_rfl) (fun _ _ _ h => h) (Or.inl ⟨by rfl, ?_⟩) hHeld ?_
  rotate_left
  · (intro w hSw; (try dsimp only at hSw); go_simp); all_goals with_reducible rfl
  try simp only [Act.put, List.setIfInBounds_toArray, List.set_cons_zero, List.set_cons_succ]
  refine wpAnyH_take (i := 6) (oi := _) (v := ?_) rfl (by kernel_rfl) (by kernel_rfl) (by kernel_rfl) (fun _ _ _ h => h) (Or.inl ⟨by rfl, ?_⟩) hHeld ?_
  rotate_left
  · (intro w hSw; (try dsimp only at hSw); go_simp); all_goals with_reducible rfl
  try simp only [Act.put, List.setIfInBounds_toArray, List.set_cons_zero, List.set_cons_succ]
  refine wpAnyH_take (i := 7) (oi := _) (v := ?_) rfl (by kernel_rfl) (by kernel_rfl) (by kernel_rfl) (fun _ _ _ h => h) (Or.inl ⟨by rfl, ?_⟩) hHeld ?_
  rotate_left
  · (intro w hSw; (try dsimp only at hSw); go_simp); all_goals with_reducible rfl
  try simp only [Act.put, List.setIfInBounds_toArray, List.set_cons_zero, List.set_cons_succ]
  refine wpAnyH_take (i := 8) (oi := _) (v := ?_) rfl (by kernel_rfl) (by kernel_rfl) (by kernel_rfl) (fun _ _ _ h => h) (Or.inl ⟨by rfl, ?_⟩) hHeld ?_
  rotate_left
  · (intro w hSw; (try dsimp only at hSw); go_simp); all_goals with_reducible rfl
  try simp only [Act.put, List.setIfInBounds_toArray, List.set_cons_zero, List.set_cons_succ]
  refine wpAnyH_take (i := 9) (oi := _) (v := ?_) rfl (by kernel_rfl) (by kernel_rfl) (by kernel_rfl) (fun _ _ _ h => h) (Or.inl ⟨by rfl, ?_⟩) hHeld ?_
  rotate_left
  · (intro w hSw; (try dsimp only at hSw); go_simp); all_goals with_reducible rfl
  try simp only [Act.put, List.setIfInBounds_toArray, List.set_cons_zero, List.set_cons_succ]
  refine wpAnyH_take (i := 10) (oi := _) (v := ?_) rfl (by kernel_rfl) (by kernel_rfl) (by kernel_rfl) (fun _ _ _ h => h) (Or.inl ⟨by rfl, ?_⟩) hHeld ?_
  rotate_left
  · (intro w hSw; (try dsimp only at hSw); go_simp); all_goals with_reducible rfl
  try simp only [Act.put, List.setIfInBounds_toArray, List.set_cons_zero, List.set_cons_succ]
  refine wpAnyH_take (i := 11) (oi := _) (v := ?_) rfl (by kernel_rfl) (by kernel_rfl) (by kernel_rfl) (fun _ _ _ h => h) (Or.inl ⟨by rfl, ?_⟩) hHeld ?_
  rotate_left
  · (intro w hSw; (try dsimp only at hSw); go_simp); all_goals with_reducible rfl
  try simp only [Act.put, List.setIfInBounds_toArray, List.set_cons_zero, List.set_cons_succ]
  refine wpAnyH_take (i := 12) (oi := _) (v := ?_) rfl (by kernel_rfl) (by kernel_rfl) (by kernel_rfl) (fun _ _ _ h => h) (Or.inl ⟨by rfl, ?_⟩) hHeld ?_
  rotate_left
  · (intro w hSw; (try dsimp only at hSw); go_simp); all_goals with_reducible rfl
  try simp only [Act.put, List.setIfInBounds_toArray, List.set_cons_zero, List.set_cons_succ]
  refine wpAnyH_take (i := 13) (oi := _) (v := ?_) rfl (by kernel_rfl) (by kernel_rfl) (by kernel_rfl) (fun _ _ _ h => h) (Or.inl ⟨by rfl, ?_⟩) hHeld ?_
  rotate_left
  · (intro w hSw; (try dsimp only at hSw); go_simp); all_goals with_reducible rfl
  try simp only [Act.put, List.setIfInBounds_toArray, List.set_cons_zero, List.set_cons_succ]
  refine wpAnyH_take (i := 14) (oi := _) (v := ?_) rfl (by kernel_rfl) (by kernel_rfl) (by kernel_rfl) (fun _ _ _ h => h) (Or.inl ⟨by rfl, ?_⟩) hHeld ?_
  rotate_left
  · (intro w hSw; (try dsimp only at hSw); go_simp); all_goals with_reducible rfl
  try simp only [Act.put, List.setIfInBounds_toArray, List.set_cons_zero, List.set_cons_succ]
  refine wpAnyH_take (i := 15) (oi := _) (v := ?_) rfl (by kernel_rfl) (by kernel_rfl) (by kernel_rfl) (fun _ _ _ h => h) (Or.inl ⟨by rfl, ?_⟩) hHeld ?_
  rotate_left
  · (intro w hSw; (try dsimp only at hSw); go_simp); all_goals with_reducible rfl
  try simp only [Act.put, List.setIfInBounds_toArray, List.set_cons_zero, List.set_cons_succ]
  refine wpAnyH_ready (rs := [16]) (by kernel_rfl) (by simp) (AllReadyH.cons (o := _) rfl (fun K hK => ?_) AllReadyH.nil)
  go_simp
  refine (HC.out _ _ HR.out (HB.out _ HR.out.1.row).1 (HB.out _ HR.out.1.row).2).mono ?_
  rintro e w' ⟨u, rfl, hV, hR⟩
  have e0 := kb_cell hR.1.st 0
  have e1 := kb_cell hR.1.st 1
  simp at e0 e1
  refine hK.out _ _ ⟨e0, e1⟩ (fun hHeld => ?_)
  try simp only [Act.put, List.setIfInBounds_toArray, List.set_cons_zero, List.set_cons_succ]
  refine wpAnyH_take (i := 17) (oi := { dst := some 8, op := _, type := _, pos := _, after := _, guard := _ }) (v := ?_) rfl (by kernel_rfl) (by kernel_rfl) (by kernel_rfl) (fun _ _ _ h => h) (Or.inl ⟨by rfl, ?_⟩) hHeld ?_
  rotate_left
  · (intro w hSw; (try dsimp only at hSw); go_simp); all_goals with_reducible rfl
  try simp only [Act.put, List.setIfInBounds_toArray, List.set_cons_zero, List.set_cons_succ]
  refine wpAnyH_done (by kernel_rfl) ?_ _
  have HV := Lib.hid hV
  have HR2 := Lib.hid hR
  clear hV hR
  go_wp2
  go_ret
  exact ⟨u, rfl, HV.out, HR2.out⟩

theorem eBig : ∀ (args : Array Value) (W : World), (callFunc 88 args).run Try.prog W = .ok (.enter 88 args) W := fun _ _ => by kernel_rfl
theorem makes_big {w : World} {B p : Nat} {s : Value} {xs : List UInt8} {a n : Nat} (hn : n ≤ 8) : Makes (fun b => b = p) w B p s xs a n 88 #[] fun _ u => u = .int .u64 (bigL ((xs.drop a).take n) : Int) := by
  refine ⟨eBig, fun w1 v hR hB _ => ?_⟩
  refine (big_any hB (by rw [List.length_take]; omega)).mono ?_
  rintro e w' ⟨rfl, rfl⟩
  exact ⟨_, rfl, rfl, hR⟩
end Go.Proofs.Ytooghjnddifpdaa
end
section
namespace Go.Proofs.Ytooghjnddifpdaa
open Go.RowKit Go.Proofs.Ytooghjnddifpdaa.Wi Go.Proofs.Ytooghjnddifpdaa.Pc
attribute [local go_sem] cell_alloc_some frozen_alloc_some
set_option linter.unusedSimpArgs false
set_option linter.unusedVariables false

def kAt (xs : List UInt8) (a : Nat) : Nat := bigL ((xs.drop a).take 1)
def nAt (xs : List UInt8) (a k : Nat) : List UInt8 := (xs.drop (a + 1)).take k
def fb : List UInt8 → UInt8 | c :: _ => c | [] => 1
def zAt (xs : List UInt8) (a k : Nat) : Bool := fb (nAt xs a k) == 0
def numP (xs : List UInt8) (a : Nat) : Rs Nat :=
  if xs.length < a + 1 then .bad 6 a
  else if 8 < kAt xs a then .bad 5 a
  else if xs.length < a + 1 + kAt xs a then .bad 6 a
  else if zAt xs a (kAt xs a) = true ∨ 9223372036854775807 < bigL (nAt xs a (kAt xs a)) then .bad 5 a
  else .ok (bigL (nAt xs a (kAt xs a))) (a + 1 + kAt xs a)

theorem kAt_lt (xs : List UInt8) (a : Nat) : kAt xs a < 256 := by
  unfold kAt
  have := bigL_lt ((xs.drop a).take 1) ((xs.drop a).take 1).length (Nat.le_refl _)
  rw [List.take_length] at this
  exact Nat.lt_of_lt_of_le this (Nat.le_trans (Nat.pow_le_pow_right (by omega) (show _ ≤ 1 by rw [List.length_take]; omega)) (by omega))

theorem num_short {w : World} {B p : Nat} {s : Value} {xs : List UInt8} {a : Nat} (F : Rd w B p s xs a 0 0) (h : xs.length < a + 1) :
    Calls Try.prog 80 #[.pointer (some ⟨p, 0, none⟩), .int .i64 a] w fun e w' => e = .panicked [{ v := wrongV 6 a, recovered := false }] ∧ Below w.heap.size w w' := by
  have HF := Lib.hid F
  clear F
  go_enter Try.func80, Try.ntmps80
  go_wp2_with fail
  refine (take8_short 1 a _ HF.out h (by omega)).mono ?_
  rintro e1 w1 ⟨rfl, hb⟩
  exact ⟨rfl, rfl, hb⟩

theorem num_big {w : World} {B p : Nat} {s : Value} {xs : List UInt8} {a : Nat} (F : Rd w B p s xs a 0 0) (h : a + 1 ≤ xs.length) (h8 : 8 < kAt xs a) :
    Calls Try.prog 80 #[.pointer (some ⟨p, 0, none⟩), .int .i64 a] w fun e w' => e = .panicked [{ v := wrongV 5 a, recovered := false }] ∧ ∃ a', RdTo (fun b => b = p) w w' B p s xs a' := by
  have HF := Lib.hid F
  have hk := kAt_lt xs a
  have hd : decide ((kAt xs a : Int) ≤ 8) = false := decide_eq_false (by omega)
  clear F
  go_enter Try.func80, Try.ntmps80
  go_wp2_with fail
  refine (take8_ok 1 a _ _ HF.out h (makes_big (by omega))).mono ?_
  rintro e1 w1 ⟨_, rfl, rfl, hR⟩
  have HR := Lib.hid hR
  clear hR
  rw [show bigL ((xs.drop a).take 1) = kAt xs a from rfl]
  generalize kAt xs a = k at *
  go_wp2_with fail
  refine (must_no _ _ _).mono ?_
  rintro e2 w2 ⟨rfl, rfl⟩
  exact ⟨rfl, rfl, _, HR.out.1.below (by (repeat (with_reducible (first | exact Below.refl _ _ | assumption | refine bl_alloc ?_ _ | refine bl_drew ?_ | refine bl_drewN ?_ _ | (refine bl_set ?_ ?_ _; (focus (first | (simp; done) | (simp; omega) | omega))) | refine bl_then ?_ (by assumption))))), HR.out.2.then_below (by (repeat (with_reducible (first | exact Below.refl _ _ | assumption | refine bl_alloc ?_ _ | refine bl_drew ?_ | refine bl_drewN ?_ _ | (refine bl_set ?_ ?_ _; (focus (first | (simp; done) | (simp; omega) | omega))) | refine bl_then ?_ (by assumption)))))⟩

set_option maxHeartbeats 1000000 in
theorem num1_any {w : World} {v : Value} {l : List UInt8} {b5 b6 : Nat} (hB : BytesOf w v l) (hl : l.length ≤ 8) (hv : v.ownBlock ≠ some b6) (h5 : w.heap[b5]? = some (.cells #[.int .i64 l.length] 3 (0, 0))) (h6 : w.heap[b6]? = some (.cells #[.int .u8 1] 5 (0, 0))) :
    Calls Try.prog 101 #[v, .pointer (some ⟨b5, 0, none⟩), .pointer (some ⟨b6, 0, none⟩)] w fun e w' => e = .returned (.int .u64 (bigL l : Int)) ∧ w'.heap[b6]? = some (.cells #[u8v (fb l)] 5 (0, 0)) ∧ Keep (fun b => b = b6) w w' := by
  have c5 := kb_cell h5 0
  simp at c5
  have H6 := Lib.hid h6
  have HB := Lib.hid hB
  have hBk : ∀ x, BytesOf (w.setCell ⟨b6, 0, none⟩ (u8v x)) v l := fun x => hB.keep ((Keep.refl (fun b => b = b6) w).set (p := ⟨b6, 0, none⟩) (fun _ => rfl) _) (fun b e h => hv (by rw [e, h]))
  obtain ⟨A, c, rfl⟩ := hB.form
  rcases hE : l with _ | ⟨x, r⟩
  · subst hE
    clear h6 hB hBk hv
    simp at c5
    go_enter Try.func101, Try.ntmps101
    go_wp2_with fail
    refine (big_any HB.out hl).mono ?_
    rintro e w' ⟨rfl, rfl⟩
    go_wp2_with fail
    go_ret
    exact ⟨rfl, H6.out, Keep.refl _ _⟩
  · have hp0 : 0 < l.length := by rw [hE]; simp
    have hpos : (0 : Int) < ((l.length : Nat) : Int) := by omega
    have hx : l[0] = x := by simp [hE]
    have z6 := kb_frozen h6
    have c6 := kb_cell h6 0
    simp at c6
    obtain ⟨A', c', e', _, hc⟩ := hB
    obtain ⟨b, off, rfl, hbl, hcc⟩ := hc hp0
    simp only [Value.slice.injEq] at e'
    obtain ⟨rfl, _, rfl⟩ := e'
    have c0 := hcc 0 _ (u8s_get l 0 hp0)
    rw [hx, Nat.add_zero] at c0
    have hK : Keep (fun b => b = b6) w (w.setCell ⟨b6, 0, none⟩ (u8v x)) := (Keep.refl (fun b => b = b6) w).set (p := ⟨b6, 0, none⟩) (fun _ => rfl) _
    have h6' : (w.setCell ⟨b6, 0, none⟩ (u8v x)).heap[b6]? = some (.cells #[u8v x] 5 (0, 0)) := by have := kb_set h6 (i := 0) (u8v x); simpa using this
    have hB2 := hBk x
    rw [← hE]
    have H2 := Lib.hid hB2
    clear hBk hv
    have HK := Lib.hid hK
    have HX := Lib.hid h6'
    unfold u8v at c0
    clear hB2 hK h6' h6 hcc hc
    have HE := Lib.hid hE
    clear hx hp0 hE
    have hil : (0 : Int) < (l.length : Int) := hpos
    go_enter Try.func101, Try.ntmps101
    go_wp2_with fail
    refine (big_any H2.out (by omega)).mono ?_
    rintro e w' ⟨rfl, rfl⟩
    go_wp2_with fail
    go_ret
    exact ⟨rfl, by rw [HE.out]; exact HX.out, HK.out⟩

theorem num_short2 {w : World} {B p : Nat} {s : Value} {xs : List UInt8} {a : Nat} (F : Rd w B p s xs a 0 0) (h : a + 1 ≤ xs.length) (h8 : kAt xs a ≤ 8) (h2 : xs.length < a + 1 + kAt xs a) :
    Calls Try.prog 80 #[.pointer (some ⟨p, 0, none⟩), .int .i64 a] w fun e w' => e = .panicked [{ v := wrongV 6 a, recovered := false }] ∧ ∃ a', RdTo (fun b => b = p) w w' B p s xs a' := by
  have HF := Lib.hid F
  have hmf : ∀ (fn : Fn) (first cap : Array Value) (w : World), (Instr.makeFunc fn first cap).run Try.prog w = .ok (.func fn first cap) w := fun _ _ _ _ => rfl
  have hd : decide ((kAt xs a : Int) ≤ 8) = true := decide_eq_true (by omega)
  clear F
  go_enter Try.func80, Try.ntmps80
  go_wp2_with fail
  refine (take8_ok 1 a _ _ HF.out h (makes_big (by omega))).mono ?_
  rintro e1 w1 ⟨_, rfl, rfl, hR⟩
  have HR := Lib.hid hR
  clear hR
  rw [show bigL ((xs.drop a).take 1) = kAt xs a from rfl]
  generalize kAt xs a = k at *
  go_wp2_with fail
  refine (must_yes _ _ _).mono ?_
  rintro e2 w2 ⟨rfl, rfl⟩
  go_wp2_with fail
  refine (take8_short k a _ (HR.out.1.below (by (repeat (with_reducible (first | exact Below.refl _ _ | assumption | refine bl_alloc ?_ _ | refine bl_drew ?_ | refine bl_drewN ?_ _ | (refine bl_set ?_ ?_ _; (focus (first | (simp; done) | (simp; omega) | omega))) | refine bl_then ?_ (by assumption)))))) h2 (by omega)).mono ?_
  rintro e3 w3 ⟨rfl, hb⟩
  exact ⟨rfl, rfl, _, HR.out.1.below (by (repeat (with_reducible (first | exact Below.refl _ _ | assumption | refine bl_alloc ?_ _ | refine bl_drew ?_ | refine bl_drewN ?_ _ | (refine bl_set ?_ ?_ _; (focus (first | (simp; done) | (simp; omega) | omega))) | refine bl_then ?_ (by assumption))))), HR.out.2.then_below (by (repeat (with_reducible (first | exact Below.refl _ _ | assumption | refine bl_alloc ?_ _ | refine bl_drew ?_ | refine bl_drewN ?_ _ | (refine bl_set ?_ ?_ _; (focus (first | (simp; done) | (simp; omega) | omega))) | refine bl_then ?_ (by assumption)))))⟩

theorem eNum1 : ∀ (args : Array Value) (W : World), (callFunc 101 args).run Try.prog W = .ok (.enter 101 args) W := fun _ _ => by kernel_rfl
theorem makes_num1 {w : World} {B p : Nat} {s : Value} {xs : List UInt8} {a n b5 b6 : Nat} (h5 : w.heap[b5]? = some (.cells #[.int .i64 n] 3 (0, 0))) (h6 : w.heap[b6]? = some (.cells #[.int .u8 1] 5 (0, 0))) (hp5 : b5 ≠ p) (hp6 : b6 ≠ p) (hs : s.ownBlock ≠ some b6) (hn : n ≤ 8) (ha : a + n ≤ xs.length) :
    Makes (fun b => b = p ∨ b = b6) w B p s xs a n 101 #[.pointer (some ⟨b5, 0, none⟩), .pointer (some ⟨b6, 0, none⟩)] fun w' u => u = .int .u64 (bigL ((xs.drop a).take n) : Int) ∧ w'.heap[b6]? = some (.cells #[u8v (fb ((xs.drop a).take n))] 5 (0, 0)) := by
  refine ⟨eNum1, fun w1 v hR hB hv => ?_⟩
  have hl : ((xs.drop a).take n).length = n := by rw [List.length_take, List.length_drop]; omega
  refine (num1_any hB (by omega) (fun e => hs (hv _ e)) (by rw [hl]; exact hR.2.kb h5 hp5) (hR.2.kb h6 hp6)).mono ?_
  rintro e w' ⟨rfl, h6', hk⟩
  refine ⟨_, rfl, ⟨rfl, h6'⟩, hR.1.keep hk (fun e => hp6 e.symm) (fun b hb e => hs (by rw [← e]; exact hb)), (hR.2.mono (T := fun b => b = p ∨ b = b6) fun _ _ h => .inl h).trans hk fun _ _ h => .inr h⟩

set_option maxHeartbeats 1000000 in
theorem num_ok {w : World} {B p : Nat} {s : Value} {xs : List UInt8} {a : Nat} (F : Rd w B p s xs a 0 0) (h : a + 1 ≤ xs.length) (h8 : kAt xs a ≤ 8) (h2 : a + 1 + kAt xs a ≤ xs.length)
    (hz : zAt xs a (kAt xs a) = false) (hbig : bigL (nAt xs a (kAt xs a)) ≤ 9223372036854775807) :
    Calls Try.prog 80 #[.pointer (some ⟨p, 0, none⟩), .int .i64 a] w fun e w' => e = .returned (.int .i64 (bigL (nAt xs a (kAt xs a)) : Int)) ∧ RdTo (fun b => b = p) w w' B p s xs (a + 1 + kAt xs a) := by
  have HF := Lib.hid F
  have hmf : ∀ (fn : Fn) (first cap : Array Value) (w : World), (Instr.makeFunc fn first cap).run Try.prog w = .ok (.func fn first cap) w := fun _ _ _ _ => rfl
  have hkA : bigL ((xs.drop a).take 1) = kAt xs a := rfl
  generalize kAt xs a = k at *
  have hnA : bigL ((xs.drop (a + 1)).take k) = bigL (nAt xs a k) := rfl
  generalize bigL (nAt xs a k) = N at *
  have hfA : fb ((xs.drop (a + 1)).take k) = fb (nAt xs a k) := rfl
  have hz6 : (((fb (nAt xs a k)).toNat : Int) != 0) = true := by
    simp only [zAt, beq_eq_false_iff_ne, ne_eq] at hz
    simp only [bne_iff_ne, ne_eq]
    intro e
    exact hz (UInt8.toNat_inj.1 (by simpa using e))
  generalize fb (nAt xs a k) = c at *
  have HA := Lib.hid hkA
  have HN := Lib.hid hnA
  have HC := Lib.hid hfA
  have hd : decide ((k : Int) ≤ 8) = true := decide_eq_true (by omega)
  have hle : decide ((N : Int) ≤ 9223372036854775807) = true := decide_eq_true (by omega)
  clear F hz hkA hnA hfA
  go_enter Try.func80, Try.ntmps80
  go_wp2_with fail
  refine (take8_ok 1 a _ _ HF.out h (makes_big (by omega))).mono ?_
  rintro e1 w1 ⟨_, rfl, rfl, hR⟩
  have HR := Lib.hid hR
  have hsz := hR.2.size
  clear hR
  rw [HA.out]
  go_wp2_with fail
  refine (must_yes _ _ _).mono ?_
  rintro e2 w2 ⟨rfl, rfl⟩
  go_wp2_with fail
  have hlt := kb_lt HR.out.1.st
  have b5 := kb_alloc (kb_new (w := w1) rfl (.cells #[.int .i64 (k : Int)] 3)) (.cells #[.int .u8 1] 5)
  have b6 := kb_new (w := w1.alloc (.cells #[.int .i64 (k : Int)] 3)) (b := w1.heap.size + 1) (by simp) (.cells #[.int .u8 1] 5)
  have hs6 : s.ownBlock ≠ some (w1.heap.size + 1) := fun e => by have := (HR.out.1.row.lt _ e).2; omega
  have hb2 : Below w1.heap.size w1 ((w1.alloc (.cells #[.int .i64 (k : Int)] 3)).alloc (.cells #[.int .u8 1] 5)) := by (repeat (with_reducible (first | exact Below.refl _ _ | assumption | refine bl_alloc ?_ _ | refine bl_drew ?_ | refine bl_drewN ?_ _ | (refine bl_set ?_ ?_ _; (focus (first | (simp; done) | (simp; omega) | omega))) | refine bl_then ?_ (by assumption))))
  refine (take8_ok k a _ _ (HR.out.1.below hb2) h2 (makes_num1 b5 b6 (by omega) (by omega) hs6 h8 h2)).mono ?_
  rintro e3 w3 ⟨_, rfl, ⟨rfl, h6⟩, hR3⟩
  rw [HN.out]
  rw [HC.out] at h6
  have hfin : Keep (fun b => b = p) w w3 := (HR.out.2.then_below hb2).trans hR3.2 fun b hb e => e.elim id fun e => by omega
  have HR3 := Lib.hid hR3.1
  have HK3 := Lib.hid hfin
  have c6 := kb_cell h6 0
  simp [u8v] at c6
  clear hR3 h6 b5 b6 hb2 hfin
  go_wp2_with fail
  refine (must_yes _ _ _).mono ?_
  rintro e4 w4 ⟨rfl, rfl⟩
  go_wp2_with fail
  go_ret
  exact ⟨rfl, HR3.out, HK3.out⟩
set_option maxHeartbeats 1000000 in
theorem num_zero {w : World} {B p : Nat} {s : Value} {xs : List UInt8} {a : Nat} (F : Rd w B p s xs a 0 0) (h : a + 1 ≤ xs.length) (h8 : kAt xs a ≤ 8) (h2 : a + 1 + kAt xs a ≤ xs.length)
    (hz : zAt xs a (kAt xs a) = true) :
    Calls Try.prog 80 #[.pointer (some ⟨p, 0, none⟩), .int .i64 a] w fun e w' => e = .panicked [{ v := wrongV 5 a, recovered := false }] ∧ ∃ a', RdTo (fun b => b = p) w w' B p s xs a' := by
  have HF := Lib.hid F
  have hmf : ∀ (fn : Fn) (first cap : Array Value) (w : World), (Instr.makeFunc fn first cap).run Try.prog w = .ok (.func fn first cap) w := fun _ _ _ _ => rfl
  have hkA : bigL ((xs.drop a).take 1) = kAt xs a := rfl
  generalize kAt xs a = k at *
  have hnA : bigL ((xs.drop (a + 1)).take k) = bigL (nAt xs a k) := rfl
  generalize bigL (nAt xs a k) = N at *
  have hfA : fb ((xs.drop (a + 1)).take k) = fb (nAt xs a k) := rfl
  have hz6 : (((fb (nAt xs a k)).toNat : Int) != 0) = false := by
    simp only [zAt, beq_iff_eq] at hz
    rw [hz]; rfl
  generalize fb (nAt xs a k) = c at *
  have HA := Lib.hid hkA
  have HN := Lib.hid hnA
  have HC := Lib.hid hfA
  have hd : decide ((k : Int) ≤ 8) = true := decide_eq_true (by omega)
  clear F hz hkA hnA hfA
  go_enter Try.func80, Try.ntmps80
  go_wp2_with fail
  refine (take8_ok 1 a _ _ HF.out h (makes_big (by omega))).mono ?_
  rintro e1 w1 ⟨_, rfl, rfl, hR⟩
  have HR := Lib.hid hR
  have hsz := hR.2.size
  clear hR
  rw [HA.out]
  go_wp2_with fail
  refine (must_yes _ _ _).mono ?_
  rintro e2 w2 ⟨rfl, rfl⟩
  go_wp2_with fail
  have hlt := kb_lt HR.out.1.st
  have b5 := kb_alloc (kb_new (w := w1) rfl (.cells #[.int .i64 (k : Int)] 3)) (.cells #[.int .u8 1] 5)
  have b6 := kb_new (w := w1.alloc (.cells #[.int .i64 (k : Int)] 3)) (b := w1.heap.size + 1) (by simp) (.cells #[.int .u8 1] 5)
  have hs6 : s.ownBlock ≠ some (w1.heap.size + 1) := fun e => by have := (HR.out.1.row.lt _ e).2; omega
  have hb2 : Below w1.heap.size w1 ((w1.alloc (.cells #[.int .i64 (k : Int)] 3)).alloc (.cells #[.int .u8 1] 5)) := by (repeat (with_reducible (first | exact Below.refl _ _ | assumption | refine bl_alloc ?_ _ | refine bl_drew ?_ | refine bl_drewN ?_ _ | (refine bl_set ?_ ?_ _; (focus (first | (simp; done) | (simp; omega) | omega))) | refine bl_then ?_ (by assumption))))
  refine (take8_ok k a _ _ (HR.out.1.below hb2) h2 (makes_num1 b5 b6 (by omega) (by omega) hs6 h8 h2)).mono ?_
  rintro e3 w3 ⟨_, rfl, ⟨rfl, h6⟩, hR3⟩
  rw [HN.out]
  rw [HC.out] at h6
  have hfin : Keep (fun b => b = p) w w3 := (HR.out.2.then_below hb2).trans hR3.2 fun b hb e => e.elim id fun e => by omega
  have HR3 := Lib.hid hR3.1
  have HK3 := Lib.hid hfin
  have c6 := kb_cell h6 0
  simp [u8v] at c6
  clear hR3 h6 b5 b6 hb2 hfin
  go_wp2_with fail
  refine (must_no _ _ _).mono ?_
  rintro e4 w4 ⟨rfl, rfl⟩
  exact ⟨rfl, rfl, _, HR3.out, HK3.out⟩

set_option maxHeartbeats 1000000 in
theorem num_much {w : World} {B p : Nat} {s : Value} {xs : List UInt8} {a : Nat} (F : Rd w B p s xs a 0 0) (h : a + 1 ≤ xs.length) (h8 : kAt xs a ≤ 8) (h2 : a + 1 + kAt xs a ≤ xs.length)
    (hz : zAt xs a (kAt xs a) = false) (hbig : 9223372036854775807 < bigL (nAt xs a (kAt xs a))) :
    Calls Try.prog 80 #[.pointer (some ⟨p, 0, none⟩), .int .i64 a] w fun e w' => e = .panicked [{ v := wrongV 5 a, recovered := false }] ∧ ∃ a', RdTo (fun b => b = p) w w' B p s xs a' := by
  have HF := Lib.hid F
  have hmf : ∀ (fn : Fn) (first cap : Array Value) (w : World), (Instr.makeFunc fn first cap).run Try.prog w = .ok (.func fn first cap) w := fun _ _ _ _ => rfl
  have hkA : bigL ((xs.drop a).take 1) = kAt xs a := rfl
  generalize kAt xs a = k at *
  have hnA : bigL ((xs.drop (a + 1)).take k) = bigL (nAt xs a k) := rfl
  generalize bigL (nAt xs a k) = N at *
  have hfA : fb ((xs.drop (a + 1)).take k) = fb (nAt xs a k) := rfl
  have hz6 : (((fb (nAt xs a k)).toNat : Int) != 0) = true := by
    simp only [zAt, beq_eq_false_iff_ne, ne_eq] at hz
    simp only [bne_iff_ne, ne_eq]
    intro e
    exact hz (UInt8.toNat_inj.1 (by simpa using e))
  generalize fb (nAt xs a k) = c at *
  have HA := Lib.hid hkA
  have HN := Lib.hid hnA
  have HC := Lib.hid hfA
  have hd : decide ((k : Int) ≤ 8) = true := decide_eq_true (by omega)
  have hle : decide ((N : Int) ≤ 9223372036854775807) = false := decide_eq_false (by omega)
  clear F hz hkA hnA hfA
  go_enter Try.func80, Try.ntmps80
  go_wp2_with fail
  refine (take8_ok 1 a _ _ HF.out h (makes_big (by omega))).mono ?_
  rintro e1 w1 ⟨_, rfl, rfl, hR⟩
  have HR := Lib.hid hR
  have hsz := hR.2.size
  clear hR
  rw [HA.out]
  go_wp2_with fail
  refine (must_yes _ _ _).mono ?_
  rintro e2 w2 ⟨rfl, rfl⟩
  go_wp2_with fail
  have hlt := kb_lt HR.out.1.st
  have b5 := kb_alloc (kb_new (w := w1) rfl (.cells #[.int .i64 (k : Int)] 3)) (.cells #[.int .u8 1] 5)
  have b6 := kb_new (w := w1.alloc (.cells #[.int .i64 (k : Int)] 3)) (b := w1.heap.size + 1) (by simp) (.cells #[.int .u8 1] 5)
  have hs6 : s.ownBlock ≠ some (w1.heap.size + 1) := fun e => by have := (HR.out.1.row.lt _ e).2; omega
  have hb2 : Below w1.heap.size w1 ((w1.alloc (.cells #[.int .i64 (k : Int)] 3)).alloc (.cells #[.int .u8 1] 5)) := by (repeat (with_reducible (first | exact Below.refl _ _ | assumption | refine bl_alloc ?_ _ | refine bl_drew ?_ | refine bl_drewN ?_ _ | (refine bl_set ?_ ?_ _; (focus (first | (simp; done) | (simp; omega) | omega))) | refine bl_then ?_ (by assumption))))
  refine (take8_ok k a _ _ (HR.out.1.below hb2) h2 (makes_num1 b5 b6 (by omega) (by omega) hs6 h8 h2)).mono ?_
  rintro e3 w3 ⟨_, rfl, ⟨rfl, h6⟩, hR3⟩
  rw [HN.out]
  rw [HC.out] at h6
  have hfin : Keep (fun b => b = p) w w3 := (HR.out.2.then_below hb2).trans hR3.2 fun b hb e => e.elim id fun e => by omega
  have HR3 := Lib.hid hR3.1
  have HK3 := Lib.hid hfin
  have c6 := kb_cell h6 0
  simp [u8v] at c6
  clear hR3 h6 b5 b6 hb2 hfin
  go_wp2_with fail
  refine (must_no _ _ _).mono ?_
  rintro e4 w4 ⟨rfl, rfl⟩
  exact ⟨rfl, rfl, _, HR3.out, HK3.out⟩

theorem num_any {w : World} {B p : Nat} {s : Value} {xs : List UInt8} {a : Nat} (F : Rd w B p s xs a 0 0) :
    Calls Try.prog 80 #[.pointer (some ⟨p, 0, none⟩), .int .i64 a] w (Takes w B p s xs (numP xs a) fun n _ u => u = .int .i64 (n : Int)) := by
  unfold numP Takes
  by_cases h : xs.length < a + 1
  · rw [if_pos h]; exact (num_short F h).mono fun e w' ⟨h1, h2⟩ => ⟨h1, a, F.below h2, Keep.of_below h2⟩
  rw [if_neg h]
  by_cases h8 : 8 < kAt xs a
  · rw [if_pos h8]; exact num_big F (by omega) h8
  rw [if_neg h8]
  by_cases h2 : xs.length < a + 1 + kAt xs a
  · rw [if_pos h2]; exact num_short2 F (by omega) (by omega) h2
  rw [if_neg h2]
  cases hz : zAt xs a (kAt xs a)
  · by_cases hb : 9223372036854775807 < bigL (nAt xs a (kAt xs a))
    · rw [if_pos (.inr hb)]; exact num_much F (by omega) (by omega) (by omega) hz hb
    · rw [if_neg (by simp [hb])]; exact (num_ok F (by omega) (by omega) (by omega) hz (by omega)).mono fun e w' ⟨h1, h2⟩ => ⟨_, h1, rfl, h2⟩
  · rw [if_pos (.inl rfl)]; exact num_zero F (by omega) (by omega) (by omega) hz
end Go.Proofs.Ytooghjnddifpdaa
end
section
namespace Go.Proofs.Ytooghjnddifpdaa
open Go.RowKit Go.Proofs.Ytooghjnddifpdaa.Wi Go.Proofs.Ytooghjnddifpdaa.Pc
attribute [local go_sem] cell_alloc_some frozen_alloc_some
set_option linter.unusedSimpArgs false
set_option linter.unusedVariables false

def Enters (k : Nat) : Prop := ∀ (args : Array Value) (W : World), (callFunc k args).run Try.prog W = .ok (.enter k args) W
theorem Rd.fault {w : World} {B p s xs a e f} (h : Rd w B p s xs a e f) (e' f' : Int) (o : Obj) : Rd (((w.setCell ⟨p, 2, none⟩ (.int .i64 e')).setCell ⟨p, 3, none⟩ (.int .i64 f')).alloc o) B p s xs a e' f' where
  st := kb_alloc (by have := kb_set (kb_set h.st (i := 2) (.int .i64 e')) (i := 3) (.int .i64 f'); simpa using this) o
  row := by
    have hne := own_ne h.row h.st (by decide)
    exact (Keep.of_below (S := fun _ => False) (bl_alloc (Below.refl _ _) o)).row (own_set (own_set h.row hne) hne) fun _ _ x => x
  lp := h.lp
  len := h.len
  le := h.le
theorem Keep.fault {w w1 : World} {p : Nat} (h : Keep (fun b => b = p) w w1) (e' f' : Int) (o : Obj) : Keep (fun b => b = p) w (((w1.setCell ⟨p, 2, none⟩ (.int .i64 e')).setCell ⟨p, 3, none⟩ (.int .i64 f')).alloc o) :=
  ((h.set (p := ⟨p, 2, none⟩) (fun _ => rfl) _).set (p := ⟨p, 3, none⟩) (fun _ => rfl) _).alloc o
/-- How a whole reading ends: what is told, and the reader behind it. -/
def Reads {α : Type} (w : World) (B p : Nat) (s : Value) (xs : List UInt8) (r : Rs α) (V : α → World → Value → Prop) (z : Value) : Ending → World → Prop := fun e w' =>
  match r with
  | .ok v a => ∃ u, e = .returned u ∧ V v w' u ∧ RdTo (fun b => b = p) w w' B p s xs a
  | .bad er f => e = .returned z ∧ ∃ a, Rd w' B p s xs a er f ∧ Keep (fun b => b = p) w w'

theorem reads_int_ok {w : World} {B p : Nat} {s : Value} {xs : List UInt8} {a a' : Nat} (F : Rd w B p s xs a 0 0) (k : Nat) (first cap : Array Value) (eK : Enters k) {V : World → Value → Prop}
    (hC : Calls Try.prog k (first ++ #[.int .i64 a] ++ cap) w fun e w' => ∃ u, e = .returned u ∧ V w' u ∧ RdTo (fun b => b = p) w w' B p s xs a') :
    Calls Try.prog 79 #[.pointer (some ⟨p, 0, none⟩), .func (.func k) first cap] w fun e w' => ∃ u, e = .returned u ∧ V w' u ∧ RdTo (fun b => b = p) w w' B p s xs a' := by
  have D := F.st
  have c := kb_cell D
  have HC := Lib.hid hC
  have eK' := eK
  unfold Enters at eK'
  clear F hC
  go_enter_defers Try.func79, Try.ntmps79
  go_wp2_with fail
  refine HC.out.mono ?_
  rintro e w1 ⟨u, rfl, hV, hR⟩
  have HV := Lib.hid hV
  have HR := Lib.hid hR
  clear hV hR
  go_wp2_with fail
  refine leaves_cons (f := 99) (args := #[.pointer (some ⟨p, 0, none⟩)]) (by simp) (by simp [go_sem]) ?_
  refine (caught_idle p _).mono ?_
  rintro e u' w'' ⟨rfl, rfl, rfl⟩
  simp [Leaves, settle, results, Try.results79, go_sem]
  exact ⟨HV.out, HR.out⟩
theorem reads_int_bad {w : World} {B p : Nat} {s : Value} {xs : List UInt8} {a : Nat} {er f : Nat} (F : Rd w B p s xs a 0 0) (k : Nat) (first cap : Array Value) (eK : Enters k)
    (hC : Calls Try.prog k (first ++ #[.int .i64 a] ++ cap) w fun e w' => e = .panicked [{ v := wrongV er f, recovered := false }] ∧ ∃ a', RdTo (fun b => b = p) w w' B p s xs a') :
    Calls Try.prog 79 #[.pointer (some ⟨p, 0, none⟩), .func (.func k) first cap] w fun e w' => e = .returned (.int .i64 0) ∧ ∃ a', Rd w' B p s xs a' er f ∧ Keep (fun b => b = p) w w' := by
  have D := F.st
  have c := kb_cell D
  have HC := Lib.hid hC
  have eK' := eK
  unfold Enters at eK'
  clear F hC
  go_enter_defers Try.func79, Try.ntmps79
  go_wp2_with fail
  refine HC.out.mono ?_
  rintro e w1 ⟨rfl, a', hR⟩
  refine leaves_cons (f := 99) (args := #[.pointer (some ⟨p, 0, none⟩)]) (by simp) (by simp [go_sem]) ?_
  refine (caught_wrong hR.1.st er f []).mono ?_
  rintro e u' w'' ⟨rfl, rfl, o, rfl⟩
  have h1 := hR.1.fault er f o
  have h2 := hR.2.fault er f o
  simp [Leaves, settle, results, Try.results79, go_sem]
  exact ⟨⟨a', h1⟩, h2⟩
theorem reads_int_not {w : World} {B p : Nat} {s : Value} {xs : List UInt8} {a : Nat} {er f : Int} (F : Rd w B p s xs a er f) (he : er ≠ 0) (fv : Value) :
    Calls Try.prog 79 #[.pointer (some ⟨p, 0, none⟩), fv] w fun e w' => e = .returned (.int .i64 0) ∧ w = w' := by
  have c := kb_cell F.st
  have hne : (er != 0) = true := by simpa using he
  clear F
  go_enter_defers Try.func79, Try.ntmps79
  go_wp2
  simp [bodyPostD, Leaves, settle, results, Try.results79, go_sem]
theorem reads_int_any {α : Type} {w : World} {B p : Nat} {s : Value} {xs : List UInt8} {a : Nat} (F : Rd w B p s xs a 0 0) (k : Nat) (first cap : Array Value) (eK : Enters k) {r : Rs α} {V : α → World → Value → Prop}
    (hC : Calls Try.prog k (first ++ #[.int .i64 a] ++ cap) w (Takes w B p s xs r V)) :
    Calls Try.prog 79 #[.pointer (some ⟨p, 0, none⟩), .func (.func k) first cap] w (Reads w B p s xs r V (.int .i64 0)) := by
  cases r with
  | ok v a' => exact reads_int_ok F k first cap eK hC
  | bad er f => exact reads_int_bad F k first cap eK hC

theorem reads_u64_ok {w : World} {B p : Nat} {s : Value} {xs : List UInt8} {a a' : Nat} (F : Rd w B p s xs a 0 0) (k : Nat) (first cap : Array Value) (eK : Enters k) {V : World → Value → Prop}
    (hC : Calls Try.prog k (first ++ #[.int .i64 a] ++ cap) w fun e w' => ∃ u, e = .returned u ∧ V w' u ∧ RdTo (fun b => b = p) w w' B p s xs a') :
    Calls Try.prog 85 #[.pointer (some ⟨p, 0, none⟩), .func (.func k) first cap] w fun e w' => ∃ u, e = .returned u ∧ V w' u ∧ RdTo (fun b => b = p) w w' B p s xs a' := by
  have D := F.st
  have c := kb_cell D
  have HC := Lib.hid hC
  have eK' := eK
  unfold Enters at eK'
  clear F hC
  go_enter_defers Try.func85, Try.ntmps85
  go_wp2_with fail
  refine HC.out.mono ?_
  rintro e w1 ⟨u, rfl, hV, hR⟩
  have HV := Lib.hid hV
  have HR := Lib.hid hR
  clear hV hR
  go_wp2_with fail
  refine leaves_cons (f := 99) (args := #[.pointer (some ⟨p, 0, none⟩)]) (by simp) (by simp [go_sem]) ?_
  refine (caught_idle p _).mono ?_
  rintro e u' w'' ⟨rfl, rfl, rfl⟩
  simp [Leaves, settle, results, Try.results85, go_sem]
  exact ⟨HV.out, HR.out⟩
theorem reads_u64_bad {w : World} {B p : Nat} {s : Value} {xs : List UInt8} {a : Nat} {er f : Nat} (F : Rd w B p s xs a 0 0) (k : Nat) (first cap : Array Value) (eK : Enters k)
    (hC : Calls Try.prog k (first ++ #[.int .i64 a] ++ cap) w fun e w' => e = .panicked [{ v := wrongV er f, recovered := false }] ∧ ∃ a', RdTo (fun b => b = p) w w' B p s xs a') :
    Calls Try.prog 85 #[.pointer (some ⟨p, 0, none⟩), .func (.func k) first cap] w fun e w' => e = .returned (.int .u64 0) ∧ ∃ a', Rd w' B p s xs a' er f ∧ Keep (fun b => b = p) w w' := by
  have D := F.st
  have c := kb_cell D
  have HC := Lib.hid hC
  have eK' := eK
  unfold Enters at eK'
  clear F hC
  go_enter_defers Try.func85, Try.ntmps85
  go_wp2_with fail
  refine HC.out.mono ?_
  rintro e w1 ⟨rfl, a', hR⟩
  refine leaves_cons (f := 99) (args := #[.pointer (some ⟨p, 0, none⟩)]) (by simp) (by simp [go_sem]) ?_
  refine (caught_wrong hR.1.st er f []).mono ?_
  rintro e u' w'' ⟨rfl, rfl, o, rfl⟩
  have h1 := hR.1.fault er f o
  have h2 := hR.2.fault er f o
  simp [Leaves, settle, results, Try.results85, go_sem]
  exact ⟨⟨a', h1⟩, h2⟩
theorem reads_u64_not {w : World} {B p : Nat} {s : Value} {xs : List UInt8} {a : Nat} {er f : Int} (F : Rd w B p s xs a er f) (he : er ≠ 0) (fv : Value) :
    Calls Try.prog 85 #[.pointer (some ⟨p, 0, none⟩), fv] w fun e w' => e = .returned (.int .u64 0) ∧ w = w' := by
  have c := kb_cell F.st
  have hne : (er != 0) = true := by simpa using he
  clear F
  go_enter_defers Try.func85, Try.ntmps85
  go_wp2
  simp [bodyPostD, Leaves, settle, results, Try.results85, go_sem]
theorem reads_u64_any {α : Type} {w : World} {B p : Nat} {s : Value} {xs : List UInt8} {a : Nat} (F : Rd w B p s xs a 0 0) (k : Nat) (first cap : Array Value) (eK : Enters k) {r : Rs α} {V : α → World → Value → Prop}
    (hC : Calls Try.prog k (first ++ #[.int .i64 a] ++ cap) w (Takes w B p s xs r V)) :
    Calls Try.prog 85 #[.pointer (some ⟨p, 0, none⟩), .func (.func k) first cap] w (Reads w B p s xs r V (.int .u64 0)) := by
  cases r with
  | ok v a' => exact reads_u64_ok F k first cap eK hC
  | bad er f => exact reads_u64_bad F k first cap eK hC

end Go.Proofs.Ytooghjnddifpdaa
end
section
namespace Go.Proofs.Ytooghjnddifpdaa
open Go.RowKit Go.Proofs.Ytooghjnddifpdaa.Wi Go.Proofs.Ytooghjnddifpdaa.Pc
attribute [local go_sem] cell_alloc_some frozen_alloc_some
set_option linter.unusedSimpArgs false
set_option linter.unusedVariables false
theorem eClone : Enters 78 := fun _ _ => by kernel_rfl
theorem makes_clone {w : World} {B p : Nat} {s : Value} {xs : List UInt8} {a n : Nat} (hn : a + n ≤ xs.length) (hl : xs.length ≤ 2097152) : Makes (fun b => b = p) w B p s xs a n 78 #[] fun w' u => w'.ownsRow w.heap.size 5 1 u n (u8s ((xs.drop a).take n)) := by
  refine ⟨eClone, fun w1 v hR hB _ => ?_⟩
  have hlen : ((xs.drop a).take n).length = n := by rw [List.length_take, List.length_drop]; omega
  refine (Clone_any hB (by omega)).mono ?_
  rintro e w' ⟨u, rfl, hN⟩
  have h1 := hN.1
  rw [hlen] at h1
  exact ⟨_, rfl, owns_mono h1 hR.2.size, hR.1.below hN.2, hR.2.then_below hN.2⟩

/-- The plain forms of the readings. -/
def takeP {α : Type} (xs : List UInt8) (n a f : Nat) (k : List UInt8 → α) : Rs α := if a + n ≤ xs.length then .ok (k ((xs.drop a).take n)) (a + n) else .bad 6 f
theorem take8_any {w : World} {B p : Nat} {s : Value} {xs : List UInt8} {a : Nat} (n f : Nat) (hn : n ≤ 8) (F : Rd w B p s xs a 0 0) :
    Calls Try.prog 87 #[.pointer (some ⟨p, 0, none⟩), .int .i64 n, .int .i64 f, .func (.func 88) #[] #[]] w (Takes w B p s xs (takeP xs n a f bigL) fun x _ u => u = .int .u64 (x : Int)) := by
  unfold takeP Takes
  by_cases h : a + n ≤ xs.length
  · rw [if_pos h]; exact take8_ok n f _ _ F h (makes_big hn)
  · rw [if_neg h]; exact (take8_short n f _ F (by omega) (by omega)).mono fun e w' ⟨h1, h2⟩ => ⟨h1, a, F.below h2, Keep.of_below h2⟩
end Go.Proofs.Ytooghjnddifpdaa
end
