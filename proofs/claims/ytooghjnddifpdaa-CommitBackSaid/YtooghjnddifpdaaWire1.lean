/- The walks of package wire: number, word. -/
import Derived.Test.YtooghjnddifpdaaBytes2
import Derived.Test.YtooghjnddifpdaaWireP
namespace Go.Proofs.Ytooghjnddifpdaa
open Go.RowKit Go.Proofs.Ytooghjnddifpdaa.Wi

/-- The eight bytes of a word, k of them laid. -/
def wA (n k : Nat) : Array Value := ((List.range 8).map fun j => if 8 ≤ j + k then u8v (UInt8.ofNat (n / 256 ^ (7 - j))) else .int .u8 0).toArray
theorem wA_0 (n : Nat) : wA n 0 = #[.int .u8 0, .int .u8 0, .int .u8 0, .int .u8 0, .int .u8 0, .int .u8 0, .int .u8 0, .int .u8 0] := rfl
theorem wA_next (n k : Nat) (hk : k < 8) : (wA n k).setIfInBounds (7 - k) (u8v (UInt8.ofNat (n / 256 ^ k))) = wA n (k + 1) := by
  match k, hk with
  | 0, _ => rfl
  | 1, _ => rfl
  | 2, _ => rfl
  | 3, _ => rfl
  | 4, _ => rfl
  | 5, _ => rfl
  | 6, _ => rfl
  | 7, _ => rfl
theorem wA_8 (n : Nat) : wA n 8 = (u8s (wrdL n)).toArray := rfl

theorem wA_size (n k : Nat) : (wA n k).size = 8 := by simp [wA]
theorem byte_of (n k : Nat) : Value.int .u8 ((n : Int) / 2 ^ (8 * k) % 256) = u8v (UInt8.ofNat (n / 256 ^ k)) := by
  unfold u8v
  congr 1
  rw [UInt8.toNat_ofNat', show (2 : Int) ^ (8 * k) = ((256 ^ k : Nat) : Int) by rw [Int.pow_mul]; simp]
  have : ((n / 256 ^ k % 2 ^ 8 : Nat) : Int) = (n : Int) / ((256 ^ k : Nat) : Int) % 256 := by simp
  rw [this]
set_option maxHeartbeats 1000000 in
theorem word_any (n : Nat) (w : World) (hn : n < 18446744073709551616) :
    Calls Try.prog 93 #[.int .u64 n] w fun e w' => e = .returned (.agg ((u8s (wrdL n)).toArray)) ∧ Below w.heap.size w w' := by
  have HE := Lib.hid (show (u8s (wrdL n)).toArray = #[u8v (UInt8.ofNat (n / 256 ^ 7)), u8v (UInt8.ofNat (n / 256 ^ 6)), u8v (UInt8.ofNat (n / 256 ^ 5)), u8v (UInt8.ofNat (n / 256 ^ 4)), u8v (UInt8.ofNat (n / 256 ^ 3)), u8v (UInt8.ofNat (n / 256 ^ 2)), u8v (UInt8.ofNat (n / 256 ^ 1)), u8v (UInt8.ofNat (n / 256 ^ 0))] from rfl)
  rw [HE.out]
  unfold u8v
  generalize h7 : ((UInt8.ofNat (n / 256 ^ 7)).toNat : Int) = b7
  generalize h6 : ((UInt8.ofNat (n / 256 ^ 6)).toNat : Int) = b6
  generalize h5 : ((UInt8.ofNat (n / 256 ^ 5)).toNat : Int) = b5
  generalize h4 : ((UInt8.ofNat (n / 256 ^ 4)).toNat : Int) = b4
  generalize h3 : ((UInt8.ofNat (n / 256 ^ 3)).toNat : Int) = b3
  generalize h2 : ((UInt8.ofNat (n / 256 ^ 2)).toNat : Int) = b2
  generalize h1 : ((UInt8.ofNat (n / 256 ^ 1)).toNat : Int) = b1
  generalize h0 : ((UInt8.ofNat (n / 256 ^ 0)).toNat : Int) = b0
  have HB8 := Lib.hid (And.intro h7 (And.intro h6 (And.intro h5 (And.intro h4 (And.intro h3 (And.intro h2 (And.intro h1 h0)))))))
  clear h7 h6 h5 h4 h3 h2 h1 h0
  have HN := Lib.hid hn
  have h0 : (n : Int) ≤ 18446744073709551615 := by omega
  clear hn
  go_enter Try.func93, Try.ntmps93
  go_wp2
  go_loopw [4, 5, 6, 7, 8, 9, 10, 11, 12, 13, 14, 15, 16] (fun _ s5 _ _ _ _ _ _ _ _ _ _ _ wr => ∃ k : Nat, k ≤ 8 ∧ s5 = .int .i64 k ∧ wr.heap[w.heap.size + 1]? = some (.cells (wA n k) 131 (0, 0)) ∧ Below w.heap.size w wr ∧ wr.heap[w.heap.size]? = some (.cells (wA n 0) 131 (0, 0))) (fun _ s5 _ _ _ _ _ _ _ _ _ _ _ _ => 8 - (intOf s5).toNat)
  case atStart => exact ⟨0, by omega, rfl, kb_new (by simp) _, by (repeat (with_reducible (first | exact Below.refl _ _ | assumption | refine bl_alloc ?_ _ | refine bl_drew ?_ | refine bl_drewN ?_ _ | (refine bl_set ?_ ?_ _; (focus (first | (simp; done) | (simp; omega) | omega))) | refine bl_then ?_ (by assumption)))), kb_alloc (kb_new rfl _) _⟩
  case round =>
    obtain ⟨k, hk, rfl, hh, hb, hr⟩ := hrel
    by_cases hlt : k < 8
    · have c0 := kb_cell hh
      have z0 := kb_frozen hh
      have HH := Lib.hid hh
      have HB := Lib.hid hb
      have HR := Lib.hid hr
      obtain ⟨x, hx⟩ : ∃ x, (wA n k)[7 - k]? = some x := ⟨_, Array.getElem?_eq_getElem (by rw [wA_size]; omega)⟩
      have cc := (c0 (7 - k)).trans hx
      clear hh hb hr c0 hx
      go_wp2
      rw [byte_of]
      exact ⟨⟨k + 1, by omega, by go_num, by rw [kb_set HH.out, wA_next n k hlt], bl_set (by simp) HB.out _, kb_far HR.out (by simp) _⟩, by simp [intOf]; omega⟩
    · obtain rfl : k = 8 := by omega
      clear hlt
      have c0 := kb_cell hh
      have z0 := kb_frozen hr
      have c1 := kb_cell hr
      rw [wA_8] at c0
      rw [HE.out] at c0
      unfold u8v at c0
      rw [wA_0] at c1
      obtain ⟨h7, h6, h5, h4, h3, h2, h1, h0'⟩ := HB8.out
      rw [h7, h6, h5, h4, h3, h2, h1, h0'] at c0
      clear h7 h6 h5 h4 h3 h2 h1 h0'
      clear HE
      go_wp2
      exact bodyPost_ret (v := .agg #[.int .u8 b7, .int .u8 b6, .int .u8 b5, .int .u8 b4, .int .u8 b3, .int .u8 b2, .int .u8 b1, .int .u8 b0]) (by simp [results, Try.results93, go_sem, *]) rfl ⟨rfl, by (repeat (with_reducible (first | exact Below.refl _ _ | assumption | refine bl_alloc ?_ _ | refine bl_drew ?_ | refine bl_drewN ?_ _ | (refine bl_set ?_ ?_ _; (focus (first | (simp; done) | (simp; omega) | omega))) | refine bl_then ?_ (by assumption))))⟩

/-- The nine bytes of a number, k of them laid. -/
def nA (n k : Nat) : Array Value := ((List.range 9).map fun j => if 9 ≤ j + k then u8v (UInt8.ofNat (n / 256 ^ (8 - j))) else .int .u8 0).toArray
theorem nA_0 (n : Nat) : nA n 0 = #[.int .u8 0, .int .u8 0, .int .u8 0, .int .u8 0, .int .u8 0, .int .u8 0, .int .u8 0, .int .u8 0, .int .u8 0] := rfl
theorem nA_next (n k : Nat) (hk : k < 8) : (nA n k).setIfInBounds (8 - k) (u8v (UInt8.ofNat (n / 256 ^ k))) = nA n (k + 1) := by
  match k, hk with
  | 0, _ => rfl
  | 1, _ => rfl
  | 2, _ => rfl
  | 3, _ => rfl
  | 4, _ => rfl
  | 5, _ => rfl
  | 6, _ => rfl
  | 7, _ => rfl
theorem nA_size (n k : Nat) : (nA n k).size = 9 := by simp [nA]
theorem nA_all (n k : Nat) (hk : k ≤ 8) : ∀ j u, (u8s (UInt8.ofNat k :: ((List.range k).map fun j => UInt8.ofNat (n / 256 ^ j)).reverse))[j]? = some u → ((nA n k).setIfInBounds (8 - k) (u8v (UInt8.ofNat k)))[8 - k + j]? = some u := by
  intro j u hu
  have hj : j < k + 1 := by have := (List.getElem?_eq_some_iff.1 hu).1; simpa [u8s] using this
  cases j with
  | zero =>
    simp [u8s] at hu
    rw [Nat.add_zero, Array.getElem?_setIfInBounds_self_of_lt (by rw [nA_size]; omega), hu]
  | succ j =>
    rw [Array.getElem?_setIfInBounds_ne (by omega)]
    simp only [u8s, List.map_cons, List.getElem?_cons_succ] at hu
    rw [← hu]
    simp [nA, show j < k by omega, show 8 - k + (j + 1) < 9 by omega, show 9 ≤ 8 - k + (j + 1) + k by omega]
    rw [show 8 - (8 - k + (j + 1)) = k - 1 - j by omega]

set_option maxRecDepth 100000 in
theorem sizeU (W : World) : (sizeOf 5).run Try.prog W = .ok 1 W := by
  obtain ⟨i0, hi, _, hz1, _⟩ := info_parts infoU
  simp [sizeOf, typeInfo, hi, hz1]
theorem slice9 (b k : Nat) (hk : k ≤ 8) (W : World) : (Instr.sliceAt 141 (.pointer (some ⟨b, 0, none⟩)) (some (.int .i64 (8 - (k : Int)))) none none).run Try.prog W = .ok (.slice (some ⟨b, 8 - k, none⟩) (k + 1) (k + 1)) W := by
  have hel : Try.prog.elem 141 = 5 := by kernel_rfl
  have hln : Try.prog.arrayLen 141 = 9 := by kernel_rfl
  have hue : Try.prog.underlying 141 = some (.array (Try.prog.arrayLen 141) (Try.prog.elem 141)) := by rw [hel, hln]; exact Try.underlying141
  rw [run_sliceAt_array_l W _ _ hue _ _ (by omega) (by rw [hln]; omega), hel, hln, sizeU]
  have h4 : (8 - (k : Int)).toNat = 8 - k := by omega
  have h5 : 9 - (8 - k) = k + 1 := by omega
  have h6 : ¬ 9 = 8 - k := by omega
  simp only [Result.andThen, slicedAt, h4, h5, h6, if_false]
  rw [addr_add, Nat.zero_add, Nat.mul_one]

set_option maxRecDepth 100000 in
set_option maxHeartbeats 1000000 in
theorem number_any (n : Nat) (w : World) (hn : n < 9223372036854775808) :
    Calls Try.prog 92 #[.int .i64 n] w fun e w' => ∃ v, e = .returned v ∧ BytesOf w' v (numL n) ∧ Below w.heap.size w w' := by
  have HN := Lib.hid hn
  have h0 : (n : Int) ≤ 9223372036854775807 := by omega
  clear hn
  go_enter Try.func92, Try.ntmps92
  go_wp2
  go_loopw [0, 4, 5, 6, 7, 8, 9, 10, 11, 12, 13, 14, 15] (fun s0 s4 _ _ _ _ _ _ _ _ _ _ _ wr => ∃ k : Nat, k ≤ 8 ∧ s0 = .int .i64 ((n / 256 ^ k : Nat) : Int) ∧ s4 = .int .i64 k ∧ (∀ j, j < k → n / 256 ^ j ≠ 0) ∧ wr.heap[w.heap.size]? = some (.cells (nA n k) 141 (0, 0)) ∧ Below w.heap.size w wr) (fun s0 _ _ _ _ _ _ _ _ _ _ _ _ _ => (intOf s0).toNat)
  case atStart => exact ⟨0, by omega, by simp, rfl, fun j hj => by omega, kb_new rfl _, by (repeat (with_reducible (first | exact Below.refl _ _ | assumption | refine bl_alloc ?_ _ | refine bl_drew ?_ | refine bl_drewN ?_ _ | (refine bl_set ?_ ?_ _; (focus (first | (simp; done) | (simp; omega) | omega))) | refine bl_then ?_ (by assumption))))⟩
  case round =>
    obtain ⟨k, hk, rfl, rfl, hd, hh, hb⟩ := hrel
    have HD := Lib.hid hd
    have hle : n / 256 ^ k ≤ n := Nat.div_le_self _ _
    have hle' : ((n / 256 ^ k : Nat) : Int) ≤ 9223372036854775807 := by omega
    by_cases hlt : n / 256 ^ k = 0
    · have c0 := kb_cell hh
      have z0 := kb_frozen hh
      obtain ⟨x, hx⟩ : ∃ x, (nA n k)[8 - k]? = some x := ⟨_, Array.getElem?_eq_getElem (by rw [nA_size]; omega)⟩
      have cc := (c0 (8 - k)).trans hx
      have HH := Lib.hid hh
      have HE := Lib.hid hlt
      rw [hlt, show ((0 : Nat) : Int) = 0 from rfl]
      have hsl := fun W => slice9 w.heap.size k hk W
      clear hd hh c0 hx hlt hle hle'
      go_wp2
      go_ret
      have e8 : Value.int .u8 (k : Int) = u8v (UInt8.ofNat k) := by
        unfold u8v; congr 1; rw [UInt8.toNat_ofNat']; omega
      rw [e8]
      refine ⟨_, rfl, ?_, bl_set (by simp) hb _⟩
      rw [numL_at n k hk HD.out HE.out]
      have hK := kb_set (i := 8 - k) HH.out (u8v (UInt8.ofNat k))
      refine ⟨_, k + 1, by simp, u8s_len _, fun _ => ⟨w.heap.size, 8 - k, rfl, kb_lt hK, fun j u hu => ?_⟩⟩
      rw [kb_cell hK]
      exact nA_all n k hk j u hu
    · have hk8 : k < 8 := by
        have := HN.out
        by_cases e : k = 8
        · exfalso; apply hlt; subst e; rw [Nat.div_eq_zero_iff]; right; omega
        · omega
      have c0 := kb_cell hh
      have z0 := kb_frozen hh
      obtain ⟨x, hx⟩ : ∃ x, (nA n k)[8 - k]? = some x := ⟨_, Array.getElem?_eq_getElem (by rw [nA_size]; omega)⟩
      have cc := (c0 (8 - k)).trans hx
      have HH := Lib.hid hh
      have hpos : (0 : Int) < ((n / 256 ^ k : Nat) : Int) := Int.natCast_pos.2 (Nat.pos_of_ne_zero hlt)
      have HE := Lib.hid hlt
      clear hd hh c0 hx hlt hle
      obtain ⟨q, hq⟩ : ∃ q, n / 256 ^ k = q := ⟨_, rfl⟩
      have HQ := Lib.hid hq
      rw [hq] at hpos hle' ⊢
      have hpq : decide (0 < q) = true := decide_eq_true (by have := HE.out; rw [hq] at this; omega)
      clear hq
      go_wp2
      have e1 : Value.int .u8 ((q : Int) % 256) = u8v (UInt8.ofNat (n / 256 ^ k)) := by
        unfold u8v; congr 1; rw [UInt8.toNat_ofNat', HQ.out]; omega
      have e2 : n / 256 ^ (k + 1) = q / 256 := by rw [Nat.pow_succ, ← Nat.div_div_eq_div_mul, HQ.out]
      have hq0 := HE.out
      have hq1 : q ≠ 0 := by rw [← HQ.out]; exact hq0
      rw [e1]
      refine ⟨⟨k + 1, by omega, by rw [e2]; rfl, by go_num, fun j hj => ?_, by rw [kb_set HH.out, nA_next n k hk8], bl_set (by simp) hb _⟩, by simp [intOf]; omega⟩
      by_cases e : j < k
      · exact HD.out j e
      · obtain rfl : j = k := by omega
        exact hq0
end Go.Proofs.Ytooghjnddifpdaa
