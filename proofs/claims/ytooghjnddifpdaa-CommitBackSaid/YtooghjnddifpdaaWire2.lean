/- The walks of package wire: slices.Grow, slices.Concat. -/
import Derived.Test.YtooghjnddifpdaaWire1
import Derived.Lib.AppendZeros
namespace Go.Proofs.Ytooghjnddifpdaa
open Go.RowKit Go.Proofs.Ytooghjnddifpdaa.Wi

theorem zeroCells_u8 (n : Nat) : (Builtin.zeroCells #[Value.int .u8 0] n).size = n := by rw [size_zeroCells]; simp

set_option maxRecDepth 100000 in
set_option maxHeartbeats 1000000 in
theorem Grow_nil (n : Nat) (w : World) (hn : n ≤ 1099511627776) :
    Calls Try.prog 104 #[.slice none 0 0, .int .i64 n] w fun e w' => ∃ v, e = .returned v ∧ w'.ownsRow w.heap.size 5 1 v 0 [] ∧ Below w.heap.size w w' := by
  by_cases h0 : n = 0
  · subst h0
    rw [show ((0 : Nat) : Int) = 0 from rfl]
    go_enter Try.func104, Try.ntmps104
    go_wp2
    go_ret
    exact ⟨_, rfl, World.ownsRow_nil _ _ _ _, Below.refl _ _⟩
  · obtain ⟨i0, hi, hz0, hz1, hz2⟩ := info_parts infoU
    have hrun := fun W => Lib.run_append_nil_zeros (P := Try.prog) W 58 3 58 5 i0 (.int .u8 0) .i64 .i64 Try.underlying58 Try.underlying3 hi hz0 n (by omega) (by omega) (by omega) (by rw [hz2]; omega)
    have HR := Lib.hid hrun
    have hpos : decide (0 < n) = true := decide_eq_true (by omega)
    have hpos' : (0 : Int) < (n : Int) := by omega
    clear hrun
    go_enter Try.func104, Try.ntmps104
    go_wp2_with (at_builtin; refine Lib.wpList_append_run _ rfl _ _ 58 3 rfl (.slice none 0 0) (.int .i64 n) rfl rfl _ _ (HR.out _) ?_)
    have hc1 := grownCap_ge w n 0 5
    have hc2 := grownCap_le_maxLen w n 0 5 (by unfold maxLen; omega)
    have hsz : (Builtin.zeroCells #[Value.int .u8 0] n ++ Builtin.zeroCells #[Value.int .u8 0] (grownCap w n 0 5 - n)).size = grownCap w n 0 5 := by
      rw [Array.size_append, zeroCells_u8, zeroCells_u8]; omega
    generalize (Builtin.zeroCells #[Value.int .u8 0] n ++ Builtin.zeroCells #[Value.int .u8 0] (grownCap w n 0 5 - n)) = cs at *
    generalize grownCap w n 0 5 = cap at *
    have HS := Lib.hid hsz
    clear hsz
    go_wp2
    go_ret
    refine ⟨_, rfl, ⟨rfl, .inr ⟨w.heap.size, cap, cs, ?_, Nat.le_refl _, kb_drew (kb_new rfl _), Nat.zero_le _, hc2, by rw [HS.out]; omega, by simp⟩⟩, by (repeat (with_reducible (first | exact Below.refl _ _ | assumption | refine bl_alloc ?_ _ | refine bl_drew ?_ | refine bl_drewN ?_ _ | (refine bl_set ?_ ?_ _; (focus (first | (simp; done) | (simp; omega) | omega))) | refine bl_then ?_ (by assumption))))⟩
    rfl

/-- Slices of bytes, one behind the other. -/
def PartsOf (w : World) (v : Value) (L : List (List UInt8)) : Prop :=
  ∃ b off cap, v = .slice (some ⟨b, off, none⟩) L.length cap ∧ b < w.heap.size ∧ ∀ j l, L[j]? = some l → ∃ u, w.cell? ⟨b, off + j, none⟩ = some u ∧ BytesOf w u l

def lens (L : List (List UInt8)) : Nat := L.flatten.length
theorem lens_next (L : List (List UInt8)) (i : Nat) (l : List UInt8) (h : L[i]? = some l) : (L.take (i + 1)).flatten = (L.take i).flatten ++ l := by
  rw [List.take_add_one, h, List.flatten_append]; simp
theorem lens_le (L : List (List UInt8)) (i : Nat) : (L.take i).flatten.length ≤ L.flatten.length := by
  have h : L.flatten = (L.take i).flatten ++ (L.drop i).flatten := by rw [← List.flatten_append, List.take_append_drop]
  rw [h, List.length_append]; omega

set_option maxRecDepth 100000 in
set_option maxHeartbeats 1000000 in
theorem Concat_any {w : World} {v : Value} {L : List (List UInt8)} (hP : PartsOf w v L) (hL : L.length ≤ 1000) (hS : L.flatten.length ≤ 1073741824) :
    Calls Try.prog 102 #[v] w fun e w' => ∃ v', e = .returned v' ∧ NewBytes w w' v' L.flatten := by
  obtain ⟨b, off, cap, rfl, hb, hc⟩ := hP
  have HC := Lib.hid hc
  clear hc
  go_enter Try.func102, Try.ntmps102
  go_wp2
  go_loop [3, 5, 11, 12, 13, 14, 15, 16, 17, 18, 19, 20, 21, 22] (fun s3 _ s11 _ _ _ _ _ _ _ _ _ _ _ => ∃ i : Nat, i ≤ L.length ∧ s11 = .int .i64 i ∧ s3 = .int .i64 (((L.take i).flatten.length : Nat) : Int)) (fun _ _ s11 _ _ _ _ _ _ _ _ _ _ _ => L.length - (intOf s11).toNat)
  case atStart => exact ⟨0, by omega, rfl, rfl⟩
  case round =>
    obtain ⟨i, hi, rfl, rfl⟩ := hrel
    have hsum := lens_le L i
    by_cases hlt : i < L.length
    · obtain ⟨l, hl⟩ : ∃ l, L[i]? = some l := ⟨_, List.getElem?_eq_getElem hlt⟩
      obtain ⟨u, hu, hB⟩ := HC.out i l hl
      obtain ⟨A', c', rfl⟩ := hB.form
      have hn := lens_next L i l hl
      have hsum2 := lens_le L (i + 1)
      rw [hn, List.length_append] at hsum2
      have HN := Lib.hid hn
      have hil : ((i : Nat) : Int) < (L.length : Int) := by omega
      obtain ⟨q, hq⟩ : ∃ q, (L.take i).flatten.length = q := ⟨_, rfl⟩
      rw [hq] at hsum hsum2 ⊢
      have HQ := Lib.hid hq
      clear hn hl hB hq
      have hge : ¬ ((q : Int) + (l.length : Int) < 0) := by omega
      go_wp2
      go_round
      case rel => exact ⟨i + 1, by omega, by go_num, by rw [HN.out, List.length_append, HQ.out]; go_num⟩
      case measure => simp [intOf]; omega
    · obtain rfl : i = L.length := by omega
      rw [List.take_length] at hsum ⊢
      generalize hq : L.flatten.length = q at *
      have HQ := Lib.hid hq
      clear hq
      go_wp2_with fail
      refine (Grow_nil q _ (by omega)).mono ?_
      rintro e w1 ⟨v1, rfl, hO, hb1⟩
      go_wp2_with fail
      have HO := Lib.hid hO
      clear hO
      obtain ⟨i0, hi, hz0, hz1, hz2⟩ := info_parts infoU
      go_loopw [6, 8, 27, 28, 29, 30, 31, 32, 33, 34] (fun s6 _ s27 _ _ _ _ _ _ _ wr => ∃ i : Nat, i ≤ L.length ∧ s27 = .int .i64 i ∧ wr.ownsRow w.heap.size 5 1 s6 (L.take i).flatten.length (u8s (L.take i).flatten) ∧ Below w.heap.size w wr) (fun _ _ s27 _ _ _ _ _ _ _ _ => L.length - (intOf s27).toNat)
      case atStart => exact ⟨0, by omega, rfl, HO.out, hb1⟩
      case round =>
        obtain ⟨i, hi2, rfl, hown, hb2⟩ := hrel
        have hsum := lens_le L i
        by_cases hlt : i < L.length
        · obtain ⟨l, hl⟩ : ∃ l, L[i]? = some l := ⟨_, List.getElem?_eq_getElem hlt⟩
          obtain ⟨u, hu, hB⟩ := HC.out i l hl
          have hu2 := (hb2.cell (p := ⟨b, off + i, none⟩) (by exact hb)).trans hu
          have HB := Lib.hid (hB.below hb2)
          obtain ⟨A', c', rfl⟩ := hB.form
          have hsum2 := lens_le L (i + 1)
          rw [lens_next L i l hl, List.length_append] at hsum2
          have hq2 := HQ.out
          have hil : ((i : Nat) : Int) < (L.length : Int) := by omega
          have hw2 : w.heap.size ≤ wr.heap.size := hb2.size
          have hsum3 : (L.take i).flatten.length + l.length ≤ 1073741824 := by omega
          have hNx := lens_next L i l hl
          obtain ⟨X, hX⟩ : ∃ X, (L.take i).flatten = X := ⟨_, rfl⟩
          rw [hX] at hown hsum3 hNx
          obtain ⟨A6, c6, h6⟩ := owns_slice0 hown
          subst h6
          have HO2 := Lib.hid hown
          have HN := Lib.hid hNx
          clear hl hB hown hu hq2 hsum hsum2 hX hNx
          go_wp2_with (at_builtin; refine wpList_append_row _ rfl _ _ 58 rfl w.heap.size 5 i0 (.int .u8 0) 1 Try.underlying58 hi hz0 hz1 hz2 rfl _ _ _ rfl HO2.out _ _ _ rfl HB.out (u8s_one _) ?c3 ?c4 ?c5 ?_)
          case c3 => unfold maxLen; omega
          case c4 => omega
          case c5 => omega
          intro v' w2 hown' hgrow _ _
          have hb3 : Below w.heap.size w w2 := hb2.grown hgrow hw2 (fun j hj => (HO2.out.lt j hj).1)
          rw [← u8s_append, ← List.length_append, ← HN.out] at hown'
          obtain ⟨A', cap', hv'⟩ := owns_slice0 hown'
          subst hv'
          have HO3 := Lib.hid hown'
          clear hgrow hown'
          go_wp2_with fail
          go_roundw
          case rel => exact ⟨i + 1, by omega, by go_num, HO3.out, hb3⟩
          case measure => simp [intOf]; omega
        · obtain rfl : i = L.length := by omega
          rw [List.take_length] at hown
          obtain ⟨A', cap', hv'⟩ := owns_slice0 hown
          subst hv'
          have HO3 := Lib.hid hown
          clear hown
          go_wp2_with fail
          go_ret
          exact ⟨_, rfl, HO3.out, hb2⟩
end Go.Proofs.Ytooghjnddifpdaa
