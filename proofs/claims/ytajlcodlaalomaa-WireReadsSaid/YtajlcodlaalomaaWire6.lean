/- The walks of the reference's writer: forms. -/
import Derived.Test.YtajlcodlaalomaaWire5
namespace Go.Proofs.Ytajlcodlaalomaa
open Go.RowKit Go.Proofs.Ytajlcodlaalomaa.Wi Go.Proofs.Ytajlcodlaalomaa.Pc
attribute [local go_sem] cell_alloc_some frozen_alloc_some

theorem lit1 (w : World) {B : Nat} (hB : B ≤ w.heap.size) (c : UInt8) : (w.alloc (.cells #[u8v c] 5)).ownsRow B 5 1 (.slice (some ⟨w.heap.size, 0, none⟩) 1 1) 1 (u8s [c]) :=
  owns_lit (cs := #[u8v c]) (kb_new rfl _) hB rfl (by decide)

set_option maxRecDepth 100000 in
set_option maxHeartbeats 1000000 in
theorem rNumber_any (n : Nat) (w : World) (hn : n < 9223372036854775808) :
    Calls Try.prog 97 #[.int .i64 n] w fun e w' => ∃ v, e = .returned v ∧ NewBytes w w' v (numL n) := by
  have HN := Lib.hid hn
  have h0 : (n : Int) ≤ 9223372036854775807 := by omega
  obtain ⟨i0, hi, hz0, hz1, hz2⟩ := info_parts infoU
  clear hn
  go_enter Try.func97, Try.ntmps97
  go_wp2
  go_loopw [0, 3, 4, 5, 6, 7, 8, 9, 10, 11, 12] (fun s0 s3 _ _ _ _ _ _ _ _ _ wr => ∃ k : Nat, k ≤ 8 ∧ s0 = .int .i64 ((n / 256 ^ k : Nat) : Int) ∧ (∀ j, j < k → n / 256 ^ j ≠ 0) ∧ wr.ownsRow w.heap.size 5 1 s3 k (u8s (pre n k)) ∧ Below w.heap.size w wr) (fun s0 _ _ _ _ _ _ _ _ _ _ _ => (intOf s0).toNat)
  case atStart => exact ⟨0, by omega, by simp, fun j hj => by omega, World.ownsRow_nil _ _ _ _, Below.refl _ _⟩
  case round =>
    obtain ⟨k, hk, rfl, hd, hown, hb⟩ := hrel
    have HD := Lib.hid hd
    have hle : n / 256 ^ k ≤ n := Nat.div_le_self _ _
    have hle' : ((n / 256 ^ k : Nat) : Int) ≤ 9223372036854775807 := by omega
    have hws : w.heap.size ≤ wr.heap.size := hb.size
    obtain ⟨A, cap, hs⟩ := owns_slice0 hown
    subst hs
    have HO := Lib.hid hown
    clear hd hown
    by_cases hlt : n / 256 ^ k = 0
    · have HE := Lib.hid hlt
      rw [hlt, show ((0 : Nat) : Int) = 0 from rfl]
      clear hlt hle hle'
      have e8 : Value.int .u8 (k : Int) = u8v (UInt8.ofNat k) := by
        unfold u8v; congr 1; rw [UInt8.toNat_ofNat']; omega
      have L1 := lit1 wr hws (UInt8.ofNat k)
      rw [← e8] at L1
      have HS := Lib.hid (show BytesOf (wr.alloc (.cells #[.int .u8 (k : Int)] 5)) (.slice A k cap) (pre n k) by
        have := (RowOf.of_own HO.out).alloc (.cells #[.int .u8 (k : Int)] 5)
        rwa [BytesOf, pre_len])
      have H1 := Lib.hid L1
      clear L1 e8
      go_wp2_with (at_builtin; refine wpList_append_row _ rfl _ _ 32 rfl w.heap.size 5 i0 (.int .u8 0) 1 Try.underlying32 hi hz0 hz1 hz2 rfl _ _ _ rfl (H1.out) _ _ _ rfl (HS.out) (u8s_one _) ?c3 ?c4 ?c5 ?_)
      case c3 => rw [pre_len]; unfold maxLen; omega
      case c4 => rw [pre_len]; omega
      case c5 => simp; omega
      intro v' w2 hown' hgrow _ _
      have hb3 : Below w.heap.size w w2 := (bl_alloc hb _).grown hgrow (by simp; omega) (fun j hj => by simp [Value.ownBlock] at hj; omega)
      rw [← u8s_append, pre_len] at hown'
      obtain ⟨A', cap', hv'⟩ := owns_slice0 hown'
      subst hv'
      have HO3 := Lib.hid hown'
      clear hgrow hown'
      go_wp2_with fail
      go_ret
      refine ⟨_, rfl, ?_, hb3⟩
      rw [numL_at n k hk HD.out HE.out]
      have e9 : (UInt8.ofNat k :: ((List.range k).map fun j => UInt8.ofNat (n / 256 ^ j)).reverse).length = 1 + k := by simp; omega
      rw [e9]
      exact HO3.out
    · have hk8 : k < 8 := by
        have := HN.out
        by_cases e : k = 8
        · exfalso; apply hlt; subst e; rw [Nat.div_eq_zero_iff]; right; omega
        · omega
      obtain ⟨q, hq⟩ : ∃ q, n / 256 ^ k = q := ⟨_, rfl⟩
      have HQ := Lib.hid hq
      rw [hq] at hle' hlt ⊢
      have hpq : decide (0 < q) = true := decide_eq_true (by omega)
      have hq1 := Lib.hid hlt
      have hpos : (0 : Int) < (q : Int) := by omega
      clear hq hlt hle
      have e1 : Value.int .u8 ((q : Int) % 256) = u8v (UInt8.ofNat (n / 256 ^ k)) := by
        unfold u8v; congr 1; rw [UInt8.toNat_ofNat', HQ.out]; omega
      have e2 : n / 256 ^ (k + 1) = q / 256 := by rw [Nat.pow_succ, ← Nat.div_div_eq_div_mul, HQ.out]
      have E2 := Lib.hid e2
      have L1 := lit1 wr hws (UInt8.ofNat (n / 256 ^ k))
      rw [← e1] at L1
      have HS := Lib.hid (show BytesOf (wr.alloc (.cells #[.int .u8 ((q : Int) % 256)] 5)) (.slice A k cap) (pre n k) by
        have := (RowOf.of_own HO.out).alloc (.cells #[.int .u8 ((q : Int) % 256)] 5)
        rwa [BytesOf, pre_len])
      have H1 := Lib.hid L1
      clear L1 e1 e2
      go_wp2_with (at_builtin; refine wpList_append_row _ rfl _ _ 32 rfl w.heap.size 5 i0 (.int .u8 0) 1 Try.underlying32 hi hz0 hz1 hz2 rfl _ _ _ rfl (H1.out) _ _ _ rfl (HS.out) (u8s_one _) ?c3 ?c4 ?c5 ?_)
      case c3 => rw [pre_len]; unfold maxLen; omega
      case c4 => rw [pre_len]; omega
      case c5 => simp; omega
      intro v' w2 hown' hgrow _ _
      have hb3 : Below w.heap.size w w2 := (bl_alloc hb _).grown hgrow (by simp; omega) (fun j hj => by simp [Value.ownBlock] at hj; omega)
      rw [← u8s_append, pre_len] at hown'
      obtain ⟨A', cap', hv'⟩ := owns_slice0 hown'
      subst hv'
      have HO3 := Lib.hid hown'
      clear hgrow hown'
      go_wp2_with fail
      go_roundw
      case rel =>
        refine ⟨k + 1, by omega, by rw [E2.out]; rfl, fun j hj => ?_, ?_, hb3⟩
        · by_cases e : j < k
          · exact HD.out j e
          · obtain rfl : j = k := by omega
            rw [HQ.out]; exact hq1.out
        · have h := HO3.out
          rw [Nat.add_comm 1 k] at h ⊢
          rw [pre_next]; exact h
      case measure => have := hq1.out; simp [intOf]; omega

set_option maxRecDepth 100000 in
set_option maxHeartbeats 1000000 in
theorem rWord_any (n : Nat) (w : World) (hn : n < 18446744073709551616) :
    Calls Try.prog 99 #[.int .u64 n] w fun e w' => ∃ v, e = .returned v ∧ NewBytes w w' v (wrdL n) := by
  have h0 : (n : Int) ≤ 18446744073709551615 := by omega
  obtain ⟨i0, hi, hz0, hz1, hz2⟩ := info_parts infoU
  clear hn
  go_enter Try.func99, Try.ntmps99
  go_wp2
  go_loopw [0, 3, 4, 5, 6, 7, 8, 9, 10, 11, 12, 13, 14, 15] (fun s0 s3 s4 _ _ _ _ _ _ _ _ _ _ _ wr => ∃ k : Nat, k ≤ 8 ∧ s0 = .int .u64 ((n / 256 ^ k : Nat) : Int) ∧ s4 = .int .i64 k ∧ wr.ownsRow w.heap.size 5 1 s3 k (u8s (pre n k)) ∧ Below w.heap.size w wr) (fun _ _ s4 _ _ _ _ _ _ _ _ _ _ _ _ => 8 - (intOf s4).toNat)
  case atStart => exact ⟨0, by omega, by simp, rfl, World.ownsRow_nil _ _ _ _, Below.refl _ _⟩
  case round =>
    obtain ⟨k, hk, rfl, rfl, hown, hb⟩ := hrel
    have hle : n / 256 ^ k ≤ n := Nat.div_le_self _ _
    have hle' : ((n / 256 ^ k : Nat) : Int) ≤ 18446744073709551615 := by omega
    have hws : w.heap.size ≤ wr.heap.size := hb.size
    obtain ⟨A, cap, hs⟩ := owns_slice0 hown
    subst hs
    have HO := Lib.hid hown
    clear hown hle
    obtain ⟨q, hq⟩ : ∃ q, n / 256 ^ k = q := ⟨_, rfl⟩
    have HQ := Lib.hid hq
    rw [hq] at hle' ⊢
    clear hq
    by_cases hlt : k < 8
    · have e1 : Value.int .u8 ((q : Int) % 256) = u8v (UInt8.ofNat (n / 256 ^ k)) := by
        unfold u8v; congr 1; rw [UInt8.toNat_ofNat', HQ.out]; omega
      have E2 := Lib.hid (show n / 256 ^ (k + 1) = q / 256 by rw [Nat.pow_succ, ← Nat.div_div_eq_div_mul, HQ.out])
      have L1 := lit1 wr hws (UInt8.ofNat (n / 256 ^ k))
      rw [← e1] at L1
      have HS := Lib.hid (show BytesOf (wr.alloc (.cells #[.int .u8 ((q : Int) % 256)] 5)) (.slice A k cap) (pre n k) by
        have := (RowOf.of_own HO.out).alloc (.cells #[.int .u8 ((q : Int) % 256)] 5)
        rwa [BytesOf, pre_len])
      have H1 := Lib.hid L1
      clear L1 e1
      go_wp2_with (at_builtin; refine wpList_append_row _ rfl _ _ 32 rfl w.heap.size 5 i0 (.int .u8 0) 1 Try.underlying32 hi hz0 hz1 hz2 rfl _ _ _ rfl (H1.out) _ _ _ rfl (HS.out) (u8s_one _) ?c3 ?c4 ?c5 ?_)
      case c3 => rw [pre_len]; unfold maxLen; omega
      case c4 => rw [pre_len]; omega
      case c5 => simp; omega
      intro v' w2 hown' hgrow _ _
      have hb3 : Below w.heap.size w w2 := (bl_alloc hb _).grown hgrow (by simp; omega) (fun j hj => by simp [Value.ownBlock] at hj; omega)
      rw [← u8s_append, pre_len] at hown'
      obtain ⟨A', cap', hv'⟩ := owns_slice0 hown'
      subst hv'
      have HO3 := Lib.hid hown'
      clear hgrow hown'
      go_wp2_with fail
      go_roundw
      case rel =>
        refine ⟨k + 1, by omega, by rw [E2.out]; rfl, by go_num, ?_, hb3⟩
        have h := HO3.out
        rw [Nat.add_comm 1 k] at h ⊢
        rw [pre_next]; exact h
      case measure => simp [intOf]; omega
    · obtain rfl : k = 8 := by omega
      clear hlt
      go_wp2_with fail
      go_ret
      exact ⟨_, rfl, HO.out, hb⟩

set_option maxRecDepth 100000 in
set_option maxHeartbeats 1000000 in
theorem rCounted_any {w : World} {v : Value} {l : List UInt8} (hv : BytesOf w v l) (hl : l.length ≤ 1000000) :
    Calls Try.prog 98 #[v] w fun e w' => ∃ v', e = .returned v' ∧ NewBytes w w' v' (numL l.length ++ l) := by
  obtain ⟨A, c, rfl⟩ := hv.form
  obtain ⟨i0, hi, hz0, hz1, hz2⟩ := info_parts infoU
  have HV := Lib.hid hv
  clear hv
  go_enter Try.func98, Try.ntmps98
  go_wp2_with fail
  refine (rNumber_any l.length _ (by omega)).mono ?_
  rintro e1 w1 ⟨v1, rfl, hN⟩
  obtain ⟨A1, c1, rfl⟩ := owns_slice0 hN.1
  have HN := Lib.hid hN
  have hb := hN.2
  have hlen := numL_len l.length
  have hws : w.heap.size ≤ w1.heap.size := hb.size
  have HS := Lib.hid (HV.out.below hb)
  clear hN
  go_wp2_with (at_builtin; refine wpList_append_row _ rfl _ _ 32 rfl w.heap.size 5 i0 (.int .u8 0) 1 Try.underlying32 hi hz0 hz1 hz2 rfl _ _ _ rfl (HN.out.1) _ _ _ rfl (HS.out) (u8s_one _) ?c3 ?c4 ?c5 ?_)
  case c3 => unfold maxLen; omega
  case c4 => omega
  case c5 => omega
  intro v' w2 hown' hgrow _ _
  have hb3 : Below w.heap.size w w2 := hb.grown hgrow hws (fun j hj => (HN.out.1.lt j hj).1)
  rw [← u8s_append] at hown'
  obtain ⟨A', cap', hv'⟩ := owns_slice0 hown'
  subst hv'
  have HO3 := Lib.hid hown'
  clear hgrow hown'
  go_wp2_with fail
  go_ret
  refine ⟨_, rfl, ?_, hb3⟩
  rw [List.length_append]
  exact HO3.out

set_option maxRecDepth 100000 in
set_option maxHeartbeats 1000000 in
theorem rBool_any (b : Bool) (w : World) :
    Calls Try.prog 100 #[.bool b] w fun e w' => ∃ v', e = .returned v' ∧ NewBytes w w' v' [if b then 1 else 0] := by
  cases b
  · go_enter Try.func100, Try.ntmps100
    go_wp2
    go_ret
    exact ⟨_, rfl, lit1 w (Nat.le_refl _) 0, by (repeat (with_reducible (first | exact Below.refl _ _ | assumption | refine bl_alloc ?_ _ | refine bl_drew ?_ | refine bl_drewN ?_ _ | (refine bl_set ?_ ?_ _; (focus (first | (simp; done) | (simp; omega) | omega))) | refine bl_then ?_ (by assumption))))⟩
  · go_enter Try.func100, Try.ntmps100
    go_wp2
    go_ret
    exact ⟨_, rfl, lit1 w (Nat.le_refl _) 1, by (repeat (with_reducible (first | exact Below.refl _ _ | assumption | refine bl_alloc ?_ _ | refine bl_drew ?_ | refine bl_drewN ?_ _ | (refine bl_set ?_ ?_ _; (focus (first | (simp; done) | (simp; omega) | omega))) | refine bl_then ?_ (by assumption))))⟩
end Go.Proofs.Ytajlcodlaalomaa
