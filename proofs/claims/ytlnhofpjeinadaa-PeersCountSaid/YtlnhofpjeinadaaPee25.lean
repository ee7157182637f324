/- PeersActs: the walk. -/
import Derived.Test.YtlnhofpjeinadaaPee24
namespace Go.Proofs.Ytlnhofpjeinadaa
open Go.RowKit Go.Proofs.Ytlnhofpjeinadaa.Pc BigFrame
attribute [local go_sem] run_store_float
set_option linter.unusedSimpArgs false
set_option linter.unusedVariables false

/-- An act as plain data; a slice of them that came in. -/
structure Ac where
  kind : Int
  who : Int
  n : Int
def ARow (w : World) (A : Option Addr) (l : List Ac) : Prop := 0 < l.length → ∃ b off, A = some ⟨b, off, none⟩ ∧ b < w.heap.size ∧ ∀ (k : Nat) a, l[k]? = some a →
  w.cell? ⟨b, off + k * 3, none⟩ = some (.int .i64 a.kind) ∧ w.cell? ⟨b, off + k * 3 + 1, none⟩ = some (.int .i64 a.who) ∧ w.cell? ⟨b, off + k * 3 + 2, none⟩ = some (.int .i64 a.n)
theorem mlist_fit {zs us : List Int} (hu : ∀ u ∈ us, u.toNat < 18446744073709551616) : Go.Proofs.Ytlnhofpjeinadaa.Fit (mlist zs us) := by
  intro m hm
  obtain ⟨i, _, rfl⟩ := List.mem_map.1 hm
  show (us.getD i 0).toNat < _
  rw [List.getD]
  cases h : us[i]? with
  | none => decide
  | some u => exact hu u (List.mem_of_getElem? h)

set_option maxRecDepth 100000 in
set_option maxHeartbeats 1000000 in
theorem PeersActs_long (A0 A1 A2 : Option Addr) (n0 n1 n2 cap0 cap1 cap2 : Nat) (wit : Int) (w : World) (h : 20 < n0 ∨ (n0 ≤ 20 ∧ 60 < n2)) :
    Calls Try.prog 5 #[.slice A0 n0 cap0, .slice A1 n1 cap1, .int .i64 wit, .slice A2 n2 cap2] w fun e w' => e = .returned (.bool true) ∧ Below w.heap.size w w' := by
  rcases h with h | ⟨h, h'⟩
  all_goals
    go_enter Try.func5, Try.ntmps5
    go_wp2_with (go_at_call 19; (with_reducible refine (awake_any _).mono ?_); rintro e w1 ⟨rfl, hb1⟩; have hz1 := hb1.size)
    go_ret
    exact ⟨rfl, hb1⟩

set_option maxRecDepth 100000 in
set_option maxHeartbeats 4000000 in
theorem PeersActs_short (A0 A1 A2 : Option Addr) (cap0 cap1 cap2 : Nat) (zs us : List Int) (l : List Ac) (wit : Int) (w : World) (h0 : zs.length ≤ 20) (h2 : l.length ≤ 60) (hZ : KRow .i64 w A0 zs) (hU : KRow .u64 w A1 us) (hA : ARow w A2 l) (hu : ∀ u ∈ us, u.toNat < 18446744073709551616) :
    Calls Try.prog 5 #[.slice A0 zs.length cap0, .slice A1 us.length cap1, .int .i64 wit, .slice A2 l.length cap2] w fun e w' => e = .returned (.bool true) ∧ Below w.heap.size w w' := by
  have HM := Lib.hid (fun W (b : Below w.heap.size w W) => merits_any A0 A1 cap0 cap1 zs us W (hZ.below b) (hU.below b) (by omega))
  have HF := Lib.hid (mlist_fit (zs := zs) hu)
  have HLn := Lib.hid (show (mlist zs us).length ≤ 1000 by rw [mlist_len]; omega)
  have HA := Lib.hid hA
  generalize mlist zs us = ms at *
  obtain ⟨n0, hn0⟩ : ∃ n0, zs.length = n0 := ⟨_, rfl⟩
  obtain ⟨n1, hn1⟩ : ∃ n1, us.length = n1 := ⟨_, rfl⟩
  obtain ⟨n2, hn2⟩ : ∃ n2, l.length = n2 := ⟨_, rfl⟩
  have HN2 := Lib.hid hn2
  rw [hn0] at h0 HM ⊢
  rw [hn1] at HM ⊢
  rw [hn2] at h2 ⊢
  clear hZ hU hA hu hn0 hn1 hn2
  go_enter Try.func5, Try.ntmps5
  go_wp2_with fail
  refine (HM.out _ (Below.refl _ _)).mono ?_
  rintro e w1 ⟨v1, rfl, o1, b1⟩
  have M1 := Lib.hid (MRow.of_own o1)
  clear o1
  go_wp2_with fail
  refine (New_any M1.out HF.out HLn.out wit).mono ?_
  intro e w2 hN
  cases hok : okN ms wit
  · obtain ⟨rfl, b2⟩ := new_er hok hN
    have b12 := bl_then b1 b2
    clear hN
    go_wp2_with fail
    refine (HM.out _ b12).mono ?_
    rintro e w3 ⟨v3, rfl, o3, b3⟩
    have M3 := Lib.hid (MRow.of_own o3)
    have b13 := bl_then b12 b3
    clear o3
    go_wp2_with fail
    refine (rNew_any M3.out HF.out HLn.out wit).mono ?_
    intro e w4 hN
    obtain ⟨rfl, b4⟩ := new_er hok hN
    have b14 := bl_then b13 b4
    clear hN hok b1 b2 b12 b3 b13 b4
    go_wp2_with fail
    go_loopw [13, 49, 50, 51, 52, 53, 54, 55, 56, 57, 58, 59, 60, 61, 62, 63, 64, 65, 66, 67, 68, 69, 70, 71, 72, 73, 74, 75, 76, 77, 78, 79, 80, 81, 82, 83, 84, 85, 86, 87, 88] (fun s13 _ _ _ _ _ _ _ _ _ _ _ _ _ _ _ _ _ _ _ _ _ _ _ _ _ _ _ _ _ _ _ _ _ _ _ _ _ _ _ _ wr => s13 = .int .i64 0 ∧ wr = w4) (fun _ _ _ _ _ _ _ _ _ _ _ _ _ _ _ _ _ _ _ _ _ _ _ _ _ _ _ _ _ _ _ _ _ _ _ _ _ _ _ _ _ _ => 0)
    case atStart => exact ⟨rfl, rfl⟩
    case round =>
      obtain ⟨rfl, rfl⟩ := hrel
      go_wp2_with fail
      refine (awake_any _).mono ?_
      rintro e w5 ⟨rfl, b5⟩
      go_wp2
      go_ret
      exact ⟨rfl, bl_then b14 b5⟩
  · unfold NewPost at hN
    rw [if_pos hok] at hN
    obtain ⟨q, g, k1, rfl, hf1, F1, hq, hg, b2⟩ := hN
    have b12 := bl_then b1 b2
    have HP := Lib.hid F1
    have HFl := Lib.hid hf1
    clear F1 hf1
    go_wp2_with fail
    refine (HM.out _ b12).mono ?_
    rintro e w3 ⟨v3, rfl, o3, b3⟩
    have M3 := Lib.hid (MRow.of_own o3)
    have b13 := bl_then b12 b3
    clear o3
    go_wp2_with fail
    refine (rNew_any M3.out HF.out HLn.out wit).mono ?_
    intro e w4 hN
    unfold NewPost at hN
    rw [if_pos hok] at hN
    obtain ⟨q', g', k2, rfl, hf2, F2, hq', hg', b4⟩ := hN
    rw [(fill_one hf2 HFl.out).1] at F2
    have hgl := HP.out.ltg
    have hql := HP.out.ltq
    have hs3 := b3.size
    have HB := Lib.hid (show Both w4 q g q' g' _ from ⟨QX.of (HP.out.below (bl_then b3 b4)), QX.of F2, by omega, by omega, by omega⟩)
    have b14 := bl_then b13 b4
    have hgw : w.heap.size ≤ g := by have := b1.size; omega
    have hgw' : w.heap.size ≤ g' := by have := b13.size; omega
    generalize fillL wit (nextL (newL ms)) k1 = X at *
    clear hf2 F2 HP HFl hok b1 b2 b12 b3 b13 b4 hs3 hgl hql hq hg hq' hg' M1 M3 HM HF HLn
    go_wp2_with fail
    go_loopw [13, 49, 50, 51, 52, 53, 54, 55, 56, 57, 58, 59, 60, 61, 62, 63, 64, 65, 66, 67, 68, 69, 70, 71, 72, 73, 74, 75, 76, 77, 78, 79, 80, 81, 82, 83, 84, 85, 86, 87, 88] (fun s13 _ _ _ _ _ _ _ _ _ _ _ _ _ _ _ _ _ _ _ _ _ _ _ _ _ _ _ _ _ _ _ _ _ _ _ _ _ _ _ _ wr => ∃ (k : Nat) (X : List Pr), k ≤ n2 ∧ s13 = .int .i64 k ∧ Hid (Both wr q g q' g' X) ∧ Below w.heap.size w wr) (fun s13 _ _ _ _ _ _ _ _ _ _ _ _ _ _ _ _ _ _ _ _ _ _ _ _ _ _ _ _ _ _ _ _ _ _ _ _ _ _ _ _ _ => n2 - (intOf s13).toNat)
    case atStart => exact ⟨0, X, by omega, rfl, HB.out, b14⟩
    case round =>
      obtain ⟨k, X, hk, rfl, hB, hnx⟩ := hrel
      by_cases hlt : k < n2
      · obtain ⟨b, off, rfl, hbl, hc⟩ := HA.out (by have := HN2.out; omega)
        obtain ⟨a, ha⟩ : ∃ a, l[k]? = some a := ⟨_, List.getElem?_eq_getElem (by have := HN2.out; omega)⟩
        obtain ⟨c0, c1, c2⟩ := hc k a ha
        obtain ⟨kd, who, n⟩ := a
        dsimp only at c0 c1 c2
        have HC := Lib.hid (fun W (bb : Below w.heap.size w W) => (⟨(bb.cell (by exact hbl)).trans c0, (bb.cell (by exact hbl)).trans c1, (bb.cell (by exact hbl)).trans c2⟩ : W.cell? ⟨b, off + k * 3, none⟩ = some (.int .i64 kd) ∧ W.cell? ⟨b, off + k * 3 + 1, none⟩ = some (.int .i64 who) ∧ W.cell? ⟨b, off + k * 3 + 2, none⟩ = some (.int .i64 n)))
        clear c0 c1 c2 hc ha
        obtain ⟨d0, d1, d2⟩ := HC.out _ hnx
        go_wp2_with fail
        refine (stand_any hB.out.p hB.out.r who).mono ?_
        rintro e w5 ⟨rfl, b5⟩
        have b05 := bl_then hnx b5
        have HB5 := Lib.hid (hB.out.below b5)
        clear d0 d1 d2
        obtain ⟨d0, d1, d2⟩ := HC.out _ b05
        go_wp2_with fail
        refine (acts_any HB5.out kd who n).mono ?_
        rintro e w6 ⟨rfl, X', B6, K6⟩
        have b06 : Below w.heap.size w w6 := b05.trans (K6.below b05.size (fun b h => by rcases h with h | h <;> omega))
        have HB6 := Lib.hid B6
        clear d0 d1 d2 B6 K6
        obtain ⟨d0, d1, d2⟩ := HC.out _ b06
        go_wp2_with fail
        refine (stand_any HB6.out.p HB6.out.r who).mono ?_
        rintro e w7 ⟨rfl, b7⟩
        have b07 := bl_then b06 b7
        have HB7 := Lib.hid (HB6.out.below b7)
        clear d0 d1 d2 b5 b05 b06 b7
        go_wp2
        go_roundw
        case rel => exact ⟨k + 1, X', by omega, by go_num, HB7, b07⟩
        case measure => simp [intOf]; omega
      · obtain rfl : k = n2 := by omega
        go_wp2_with fail
        refine (awake_any _).mono ?_
        rintro e w5 ⟨rfl, b5⟩
        go_wp2
        go_ret
        exact ⟨rfl, bl_then hnx b5⟩
theorem PeersActs_walk (A0 A1 A2 : Option Addr) (cap0 cap1 cap2 : Nat) (zs us : List Int) (l : List Ac) (wit : Int) (w : World) (hZ : KRow .i64 w A0 zs) (hU : KRow .u64 w A1 us) (hA : ARow w A2 l) (hu : ∀ u ∈ us, u.toNat < 18446744073709551616) :
    Calls Try.prog 5 #[.slice A0 zs.length cap0, .slice A1 us.length cap1, .int .i64 wit, .slice A2 l.length cap2] w fun e w' => e = .returned (.bool true) ∧ Below w.heap.size w w' := by
  by_cases h0 : 20 < zs.length
  · exact PeersActs_long _ _ _ _ _ _ _ _ _ _ _ (.inl h0)
  by_cases h2 : 60 < l.length
  · exact PeersActs_long _ _ _ _ _ _ _ _ _ _ _ (.inr ⟨by omega, h2⟩)
  exact PeersActs_short A0 A1 A2 cap0 cap1 cap2 zs us l wit w (by omega) (by omega) hZ hU hA hu
end Go.Proofs.Ytlnhofpjeinadaa
