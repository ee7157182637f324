/- The document's Sum. -/
import Derived.Test.YtmfajippoielhaaDoorBl24
import Derived.Test.YtmfajippoielhaaDoorBl21
namespace Go.Proofs.YtmfajippoielhaaDoor
open Go.RowKit Go.Proofs.YtmfajippoielhaaDoor.Bl BigFrame
set_option linter.unusedSimpArgs false
set_option linter.unusedVariables false
attribute [local go_sem] cell_alloc_some frozen_alloc_some

theorem zeros_one (z : Nat) : zeros z ++ [0] = zeros (z + 1) := by unfold zeros; rw [← List.replicate_succ']
def sliceLen : Value → Nat
  | .slice _ n _ => n
  | _ => 0
theorem pad_of {b : List UInt8} {z : Nat} (hz : z ≤ 64) (h : ∀ y, y < z → b.length + y = 0 ∨ (b.length + y) % 64 ≠ 0) (h0 : 0 < b.length + z) (hm : (b.length + z) % 64 = 0) : Pad b (b ++ zeros z) := by
  refine ⟨z, rfl, by rw [List.length_append, zeros_len]; exact hm, by rw [List.length_append, zeros_len]; exact h0, ?_⟩
  by_cases e : z < 64
  · exact .inl e
  · right
    have h1 := h ((64 - b.length % 64) % 64) (by omega)
    have : b.length = 0 := by omega
    exact ⟨List.eq_nil_of_length_eq_zero this, by omega⟩
theorem pad_lt {b : List UInt8} {z : Nat} (hz : z ≤ 64) (h : ∀ y, y < z → b.length + y = 0 ∨ (b.length + y) % 64 ≠ 0) (h0 : b.length + z = 0 ∨ (b.length + z) % 64 ≠ 0) : z < 64 := by
  by_cases e : z < 64
  · exact e
  · have h1 := h ((64 - b.length % 64) % 64) (by omega)
    omega
theorem own_some {w : World} {B n c : Nat} {A : Option Addr} {l : List Value} (h : w.ownsRow B 5 1 (.slice A n c) n l) (h0 : 0 < n) : ∃ g, A = some ⟨g, 0, none⟩ ∧ n ≤ c := by
  rcases h.2 with ⟨e, h1⟩ | ⟨g, cap, cur, e, hB, hh, hn, _⟩
  · omega
  · injection e with e1 e2 e3
    subst e1; subst e3
    exact ⟨g, rfl, hn⟩
theorem step_load_8 {ops : Array Oper} {o : Oper} {a : Act} {w : World} {K : Act → World → Prop} {Q : Exit → Act → World → Prop} {E : Prop} (hgd : o.guard = none) (x : Operand) (ho : o.op = .load 33 x) (b q : Nat) (hx : a.eval x = .pointer (some ⟨b, q, none⟩)) {cs : List Value}
    (h : w.rangeAt b q cs) (hl : cs.length = 8) (hk : K (a.put o.dst (.agg cs.toArray)) w) : if Region.wanted o (yielded ops a.tmps) = true then Oper.wp Tryd.prog o a w K Q else E := by
  have hw : Region.wanted o (yielded ops a.tmps) = true := by simp [Region.wanted, hgd]
  rw [if_pos hw]
  exact wp_load_mid 33 x ho b q hx cs _ h Tryd.underlying33 rfl (size_8.trans (by rw [hl])) hk
theorem step_store_8 {ops : Array Oper} {o : Oper} {a : Act} {w : World} {K : Act → World → Prop} {Q : Exit → Act → World → Prop} {E : Prop} (hgd : o.guard = none) (x y : Operand) (ho : o.op = .store 33 x y) (b : Nat) (hx : a.eval x = .pointer (some ⟨b, 0, none⟩)) {cs cur : List Value} {t : Nat} (hy : a.eval y = .agg cs.toArray)
    (h : Cs w b t cur) (hs : cur.length = 8) (hl : cs.length = 8) (h1 : ∀ u ∈ cs, u.oneCell' = true)
    (hk : ∀ w', Cs w' b t cs → Keep (fun x => x = b) w w' → K (a.put o.dst undef) w') : if Region.wanted o (yielded ops a.tmps) = true then Oper.wp Tryd.prog o a w K Q else E := by
  have hw : Region.wanted o (yielded ops a.tmps) = true := by simp [Region.wanted, hgd]
  rw [if_pos hw]
  have hL : cs.toArray.size = 8 := by simpa using hl
  exact wp_store_mid 33 x y ho b 0 cs.toArray hx hy (by rw [hL]; exact there_kb h (by simpa using hs)) (size_8.trans (by rw [hL])) (all_oneCell_toArray h1) (hk _ (setCells_kb cs h (by simp [hs, hl])) (keep_cells _ 0 (Keep.refl _ _) (fun _ => rfl)))

set_option maxRecDepth 100000 in
set_option maxHeartbeats 2000000 in
theorem rSum_any {w : World} {x : Value} {b : List UInt8} (hx : BytesOf w x b) (hn : b.length ≤ 100000) :
    Calls Tryd.prog 12 #[x] w fun e w' => e = .returned (.agg (u8s (sumB b)).toArray) ∧ Below w.heap.size w w' := by
  obtain ⟨A, cap, hv⟩ := RowOf.form hx
  have HX := Lib.hid hx
  clear hx
  subst hv
  obtain ⟨i0, hi0, hz0, hz1, hz2⟩ := info_parts infoU
  go_enter Tryd.func12, Tryd.ntmps12
  go_upto_region 1 with fail
  refine wp_world fun w1 hw => ?_
  have b1 : Below w.heap.size w w1 := by rw [hw]; exact bl_alloc (Below.refl _ _) _
  have C1 : Hs w1 w.heap.size (zeros 32) := by rw [hw]; exact hash_new _ _ rfl
  have s1 : w1.heap.size = w.heap.size + 1 := by rw [hw]; simp
  clear hw
  have H1 := Lib.hid (And.intro (HX.out.below b1) (And.intro C1 (And.intro b1 s1)))
  clear b1 C1 s1 HX
  have hRow := H1.out.1.alloc (.cells #[] 5)
  have hn0 := owns_lit0 (w := w1.alloc (.cells #[] 5)) (base := w.heap.size + 1) (cap := 0) (kb_new rfl _) (by rw [H1.out.2.2.2]; exact Nat.le_refl _) rfl
  go_wp2_with (at_builtin; refine wpList_append_row _ rfl _ _ 22 rfl (w.heap.size + 1) 5 i0 (.int .u8 0) 1 Tryd.underlying22 hi0 hz0 hz1 hz2 rfl _ _ _ rfl hn0 _ _ _ rfl hRow (u8s_one _) ?c3 ?c4 ?c5 ?_)
  case c3 => unfold maxLen; omega
  case c4 => omega
  case c5 => have := H1.out.2.2.2; simp; omega
  intro v2 w2 o2 g2 _ _
  have k2 : Keep (fun c => w.heap.size + 1 ≤ c) w1 w2 := ((Keep.refl (fun c => w.heap.size + 1 ≤ c) w1).alloc (.cells #[] 5)).grown g2 (fun b _ e => (hn0.lt b e).1)
  have o2' : w2.ownsRow (w.heap.size + 1) 5 1 v2 (b.length + 0) (u8s (b ++ zeros 0)) := by simpa [zeros] using o2
  obtain ⟨A2, c2, hv2⟩ := owns_slice0 o2'
  subst hv2
  have H2 := Lib.hid (And.intro o2' (And.intro (((Keep.of_below (S := fun _ => False) H1.out.2.2.1).trans k2 (fun b hb e => by omega)).below (Nat.le_refl _) (fun b e => e.elim)) (H1.out.2.1.keep k2 (by omega))))
  clear o2 o2' g2 k2 hRow hn0 H1
  go_wp2_with fail
  go_loopw [3, 11, 12, 13, 14, 15, 16, 17, 18, 19, 20, 21, 22] (fun s3 _ _ _ _ _ _ _ _ _ _ _ _ wr => ∃ (z : Nat) (A2 : Option Addr) (c2 : Nat), z ≤ 64 ∧ s3 = .slice A2 (b.length + z) c2 ∧ Hid (∀ y, y < z → b.length + y = 0 ∨ (b.length + y) % 64 ≠ 0) ∧ Hid (wr.ownsRow (w.heap.size + 1) 5 1 (.slice A2 (b.length + z) c2) (b.length + z) (u8s (b ++ zeros z))) ∧ Hid (Below w.heap.size w wr) ∧ Hid (Hs wr w.heap.size (zeros 32))) (fun s3 _ _ _ _ _ _ _ _ _ _ _ _ _ => b.length + 65 - sliceLen s3)
  case atStart => exact ⟨0, A2, c2, by omega, rfl, Lib.hid (fun y hy => by omega), Lib.hid H2.out.1, Lib.hid H2.out.2.1, Lib.hid H2.out.2.2⟩
  case round =>
    clear H2
    obtain ⟨z, A2, c2, hz, rfl, HZ, HO, HB, HC⟩ := hrel
    obtain ⟨L, hL⟩ : ∃ L, b.length + z = L := ⟨_, rfl⟩
    rw [hL] at HO ⊢
    have HL := Lib.hid hL
    have HBS : Hid (w.heap.size + 1 ≤ wr.heap.size) := Lib.hid (kb_lt HC.out)
    clear hL
    have f0 : Int.tmod (L : Int) 64 = ((L % 64 : Nat) : Int) := by rw [Int.tmod_eq_emod_of_nonneg (by omega)]; omega
    by_cases h0 : L = 0
    · have hz64 := pad_lt hz HZ.out (.inl (HL.out.trans h0))
      have e1 : ((L : Int) == 0) = true := by simp; omega
      have e2 : (L : Int) = 0 := by omega
      have H0 : Hid (L = 0 ∨ L % 64 ≠ 0) := Lib.hid (.inl h0)
      clear h0 f0
      have hbase := HB.out.size
      have hLit := row_lit (w := wr.alloc (.cells #[.int .u8 0] 5)) (g := wr.heap.size) [0] (kb_new rfl _)
      have hOl := HO.out.alloc (.cells #[.int .u8 0] 5)
      have hLs : L ≤ 100064 := by have := HL.out; omega
      go_wp2_with (at_builtin; refine wpList_append_row _ rfl _ _ 22 rfl (w.heap.size + 1) 5 i0 (.int .u8 0) 1 Tryd.underlying22 hi0 hz0 hz1 hz2 rfl _ _ _ rfl hOl _ _ _ rfl hLit (u8s_one _) ?c3 ?c4 ?c5 ?_)
      case c3 => unfold maxLen; simp; omega
      case c4 => simp; omega
      case c5 => have := (HO.out.lt); simp; have := HBS.out; omega
      intro v5 w5 o5 g5 _ _
      have k5 := (((Keep.refl (fun c => w.heap.size + 1 ≤ c) wr).alloc (.cells #[.int .u8 0] 5)).grown g5 (fun b _ e => (hOl.lt b e).1))
      have h5 : Hid (w5.ownsRow (w.heap.size + 1) 5 1 v5 (L + 1) (u8s (b ++ zeros (z + 1)))) := by
        rw [← u8s_append, List.append_assoc, zeros_one] at o5
        exact Lib.hid o5
      obtain ⟨A5, c5, hv5⟩ := owns_slice0 h5.out
      subst hv5
      have HB5 := Lib.hid (((Keep.of_below (S := fun _ => False) HB.out).trans k5 (fun b hb e => by omega)).below (Nat.le_refl _) (fun b e => e.elim))
      have HC5 := Lib.hid (HC.out.keep k5 (by omega))
      have HZ5 := Lib.hid (show ∀ y, y < z + 1 → b.length + y = 0 ∨ (b.length + y) % 64 ≠ 0 from fun y hy => by
        by_cases e : y = z
        · have := HL.out; have := H0.out; subst e; omega
        · exact HZ.out y (by omega))
      clear o5 g5 k5 hLit hOl HO HB HC HZ
      go_wp2_with fail
      refine ⟨?_, ?measure⟩
      (repeat apply Exists.intro)
      refine ⟨?rel, rfl⟩
      case rel =>
        have hL1 : L + 1 = b.length + (z + 1) := by have := HL.out; omega
        exact ⟨z + 1, A5, c5, by omega, by rw [hL1], HZ5, by rw [← hL1]; exact h5, HB5, HC5⟩
      case measure =>
        show b.length + 65 - (L + 1) < b.length + 65 - L
        have := HL.out
        omega
    · by_cases h1 : L % 64 ≠ 0
      · have hz64 := pad_lt hz HZ.out (.inr (by rw [HL.out]; exact h1))
        have H0 : Hid (L = 0 ∨ L % 64 ≠ 0) := Lib.hid (.inr h1)
        obtain ⟨m, hm⟩ : ∃ m, L % 64 = m := ⟨_, rfl⟩
        rw [hm] at f0 h1
        have e1 : ((L : Int) == 0) = false := by simp; omega
        have e2 : ¬ (L : Int) = 0 := by omega
        have e3 : ((m : Int) != 0) = true := by simp; omega
        have e4 : ¬ (m : Int) = 0 := by omega
        clear h0 h1 hm
        have hbase := HB.out.size
        have hLit := row_lit (w := wr.alloc (.cells #[.int .u8 0] 5)) (g := wr.heap.size) [0] (kb_new rfl _)
        have hOl := HO.out.alloc (.cells #[.int .u8 0] 5)
        have hLs : L ≤ 100064 := by have := HL.out; omega
        go_wp2_with (at_builtin; refine wpList_append_row _ rfl _ _ 22 rfl (w.heap.size + 1) 5 i0 (.int .u8 0) 1 Tryd.underlying22 hi0 hz0 hz1 hz2 rfl _ _ _ rfl hOl _ _ _ rfl hLit (u8s_one _) ?c3 ?c4 ?c5 ?_)
        case c3 => unfold maxLen; simp; omega
        case c4 => simp; omega
        case c5 => have := (HO.out.lt); simp; have := HBS.out; omega
        intro v5 w5 o5 g5 _ _
        have k5 := (((Keep.refl (fun c => w.heap.size + 1 ≤ c) wr).alloc (.cells #[.int .u8 0] 5)).grown g5 (fun b _ e => (hOl.lt b e).1))
        have h5 : Hid (w5.ownsRow (w.heap.size + 1) 5 1 v5 (L + 1) (u8s (b ++ zeros (z + 1)))) := by
          rw [← u8s_append, List.append_assoc, zeros_one] at o5
          exact Lib.hid o5
        obtain ⟨A5, c5, hv5⟩ := owns_slice0 h5.out
        subst hv5
        have HB5 := Lib.hid (((Keep.of_below (S := fun _ => False) HB.out).trans k5 (fun b hb e => by omega)).below (Nat.le_refl _) (fun b e => e.elim))
        have HC5 := Lib.hid (HC.out.keep k5 (by omega))
        have HZ5 := Lib.hid (show ∀ y, y < z + 1 → b.length + y = 0 ∨ (b.length + y) % 64 ≠ 0 from fun y hy => by
          by_cases e : y = z
          · have := HL.out; have := H0.out; subst e; omega
          · exact HZ.out y (by omega))
        clear o5 g5 k5 hLit hOl HO HB HC HZ
        go_wp2_with fail
        refine ⟨?_, ?measure⟩
        (repeat apply Exists.intro)
        refine ⟨?rel, rfl⟩
        case rel =>
          have hL1 : L + 1 = b.length + (z + 1) := by have := HL.out; omega
          exact ⟨z + 1, A5, c5, by omega, by rw [hL1], HZ5, by rw [← hL1]; exact h5, HB5, HC5⟩
        case measure =>
          show b.length + 65 - (L + 1) < b.length + 65 - L
          have := HL.out
          omega
      · have hPad := pad_of hz HZ.out (by rw [HL.out]; omega) (by rw [HL.out]; omega)
        have e1 : ((L : Int) == 0) = false := by simp; omega
        have e2 : ¬ (L : Int) = 0 := by omega
        obtain ⟨m, hm⟩ : ∃ m, L % 64 = m := ⟨_, rfl⟩
        rw [hm] at f0
        have e4 : (m : Int) = 0 := by omega
        have e3 : ((m : Int) != 0) = false := by simp; omega
        have HA := Lib.hid (And.intro hPad (show (b ++ zeros z).length = L by rw [List.length_append, zeros_len]; exact HL.out))
        have hLn : L ≤ 100064 := by have := HL.out; omega
        clear hPad HZ hz h0 h1 hm
        generalize hall : b ++ zeros z = all at *
        clear hall
        go_wp2_with fail
        clear f0 e1 e2 e3 e4
        refine (rbegin_any _).mono ?_
        rintro e w3 ⟨rfl, b3⟩
        have hil : (wvs iv).length = 8 := rfl
        have k3 := Keep.of_below (S := fun _ => False) b3
        have H3 := Lib.hid (And.intro (k3.row HO.out (fun _ _ e => e)) (And.intro (bl_then HB.out b3) (HC.out.below b3)))
        clear k3 b3 HO HB HC
        go_upto_region 5 with (first
          | (refine wpList_stnew_8 (op := ⟨none, .store 33 (.tmp 4) _, _, _, _, _⟩) (cs := wvs iv) rfl _ _ rfl rfl rfl rfl hil (wvs_one _) ?_))
        have hbw : w.heap.size < w3.heap.size := kb_lt H3.out.2.2
        have H4 := Lib.hid (And.intro (H3.out.1.alloc (.cells (wvs iv).toArray 33)) (And.intro (bl_alloc H3.out.2.1 (.cells (wvs iv).toArray 33)) (And.intro (kb_alloc H3.out.2.2 (.cells (wvs iv).toArray 33)) (show Ws (w3.alloc (.cells (wvs iv).toArray 33)) w3.heap.size 33 iv from Cs.new rfl _))))
        clear H3 hil
        generalize w3.alloc (.cells (wvs iv).toArray 33) = w4 at *
        generalize w3.heap.size = hb at *
        have c0 := H4.out.2.2.2.at (i := 0) (by decide)
        have z0 := H4.out.2.2.2.fz 0
        have hx : bits .xor .u32 ((wAt iv 0).toNat : Int) 16842784 = ((wAt iv 0 ^^^ 16842784 : UInt32).toNat : Int) := w_xor (wAt iv 0) 16842784
        generalize hiv : wAt iv 0 = y0 at *
        go_upto_region 6 with fail
        refine wp_world fun w5 hw => ?_
        have H5 : Hid (w5.ownsRow (w.heap.size + 1) 5 1 (.slice A2 L c2) L (u8s all) ∧ Below w.heap.size w w5 ∧ Hs w5 w.heap.size (zeros 32) ∧ Ws w5 hb 33 h0) := by
          rw [hw, show (UInt32.toNat y0 ^^^ 16842784 : Nat) = (y0 ^^^ 16842784 : UInt32).toNat by rw [UInt32.toNat_xor]; rfl]
          have k5 := (Keep.refl (fun c => c = hb) w4).set (p := ⟨hb, 0, none⟩) (fun _ => rfl) (wv (y0 ^^^ 16842784))
          refine Lib.hid ⟨k5.row H4.out.1 (fun b hb' e => own_ne H4.out.1 H4.out.2.2.2 (by decide) (by rw [hb', e])), bl_set (p := ⟨hb, 0, none⟩) (by show w.heap.size ≤ hb; omega) H4.out.2.1 _, Cs.keep (S := fun c => c = hb) H4.out.2.2.1 k5 (by omega), ?_⟩
          have := H4.out.2.2.2.put 0 (y0 ^^^ 16842784)
          rw [← hiv] at this ⊢
          exact this
        clear hw hx hiv c0 z0 H4
        go_wp2_with fail
        go_loopw [5, 28, 29, 30, 31, 32, 33, 34, 35, 36, 37, 38, 39, 40, 41, 42, 43, 44, 45, 46, 47, 48, 49, 50] (fun s5 _ _ _ _ _ _ _ _ _ _ _ _ _ _ _ _ _ _ _ _ _ _ _ wr => ∃ (k : Nat) (hh : List UInt32), s5 = .int .i64 k ∧ Hid (RefI b all hh k) ∧ Hid (wr.ownsRow (w.heap.size + 1) 5 1 (.slice A2 L c2) L (u8s all) ∧ Below w.heap.size w wr ∧ Hs wr w.heap.size (zeros 32) ∧ Ws wr hb 33 hh)) (fun s5 _ _ _ _ _ _ _ _ _ _ _ _ _ _ _ _ _ _ _ _ _ _ _ _ => L - (intOf s5).toNat)
        case atStart => exact ⟨0, h0, rfl, Lib.hid (RefI.start HA.out.1), H5⟩
        case round =>
          clear H5
          obtain ⟨k, hh, rfl, HR, HI⟩ := hrel
          have hhl : hh.length = 8 := HR.out.1
          by_cases hk : k < L
          · have hkm : k % 64 = 0 ∧ k + 64 ≤ L := by
              have h1 := HR.out.2
              have h2 := HA.out.2
              obtain ⟨zz, _, h3, _⟩ := HA.out.1
              rcases h1 with ⟨_, h, _⟩ | ⟨h, _⟩ <;> omega
            obtain ⟨g, hg, hcL⟩ := own_some HI.out.1 (by omega)
            subst hg
            have hpart := cut_bytes (A := some ⟨g, 0, none⟩) (cap := c2) (lo := k) (hi := k + 64) (b := all) (by rw [HA.out.2]; have := RowOf.of_own (owns_drew HI.out.1); rw [← HA.out.2] at this ⊢; exact this) (by rw [HA.out.2]; exact hcL) (by omega) (by rw [HA.out.2]; omega)
            have e1 : cutA (some ⟨g, 0, none⟩) c2 k = some ⟨g, k, none⟩ := by unfold cutA; rw [if_neg (by omega), Option.map_some, Nat.mul_one, addr_add, Nat.zero_add]
            rw [e1, show k + 64 - k = 64 by omega] at hpart
            have HP := Lib.hid hpart
            clear hpart e1
            have hnx := HR.out.next HA.out.1 (by rw [HA.out.2]; exact hk)
            rw [HA.out.2] at hnx
            obtain ⟨nk, hnk⟩ : ∃ nk, k + 64 = nk := ⟨_, rfl⟩
            rw [hnk] at hnx
            have HNX := Lib.hid hnx
            have HNK := Lib.hid hnk
            have f1 : IntKind.i64.wrap ((k : Int) + 64) = (nk : Int) := by rw [IntKind.wrap_i64]; omega
            have f2 : (k : Int) ≤ (nk : Int) := by omega
            have f3 : (nk : Int) ≤ (c2 : Int) := by omega
            have f4 : ¬ (c2 : Int) = (k : Int) := by omega
            have f5 : ¬ c2 = k := by omega
            have f6 : nk - k = 64 := by omega
            have fk : (k : Int) < (L : Int) := by omega
            have HKL := Lib.hid hkm
            have hmin : min (b.length : Int) (nk : Int) = ((min b.length nk : Nat) : Int) := by omega
            have heq : ((nk : Int) == (L : Int)) = decide (nk = L) := by rw [Bool.eq_iff_iff]; simp; omega
            clear hnx hnk hkm
            go_upto_region 9 with fail
            refine wp_region_held_drew (S := (fun W : World => True)) (by kernel_rfl) trivial (fun hHeld => ?_)
            refine wpAnyH_take (i := 1) (oi := { dst := some 35, op := _, type := _, pos := _, after := _, guard := _ }) (v := ?_) rfl (by kernel_rfl) (by kernel_rfl) (by kernel_rfl) (fun _ _ _ h => h) (Or.inl ⟨by rfl, ?_⟩) hHeld ?_
            rotate_left
            · (intro w hSw; (try dsimp only at hSw); go_simp); all_goals with_reducible rfl
            try simp only [Act.put, List.setIfInBounds_toArray, List.set_cons_zero, List.set_cons_succ]
            refine wpAnyH_take (i := 2) (oi := { dst := some 36, op := _, type := _, pos := _, after := _, guard := _ }) (v := ?_) rfl (by kernel_rfl) (by kernel_rfl) (by kernel_rfl) (fun _ _ _ h => h) (Or.inl ⟨by rfl, ?_⟩) hHeld ?_
            rotate_left
            · (intro w hSw; (try dsimp only at hSw); go_simp); all_goals with_reducible rfl
            try simp only [Act.put, List.setIfInBounds_toArray, List.set_cons_zero, List.set_cons_succ]
            refine wpAnyH_take (i := 3) (oi := { dst := some 37, op := _, type := _, pos := _, after := _, guard := _ }) (v := ?_) rfl (by kernel_rfl) (by kernel_rfl) (by kernel_rfl) (fun _ _ _ h => h) (Or.inl ⟨by rfl, ?_⟩) hHeld ?_
            rotate_left
            · (intro w hSw; (try dsimp only at hSw); go_simp); all_goals with_reducible rfl
            try simp only [Act.put, List.setIfInBounds_toArray, List.set_cons_zero, List.set_cons_succ]
            refine wpAnyH_take (i := 4) (oi := { dst := some 38, op := _, type := _, pos := _, after := _, guard := _ }) (v := ?_) rfl (by kernel_rfl) (by kernel_rfl) (by kernel_rfl) (fun _ _ _ h => h) (Or.inl ⟨by rfl, ?_⟩) hHeld ?_
            rotate_left
            · (intro w hSw; (try dsimp only at hSw); go_simp); all_goals with_reducible rfl
            try simp only [Act.put, List.setIfInBounds_toArray, List.set_cons_zero, List.set_cons_succ]
            refine wpAnyH_take (i := 5) (oi := { dst := some 39, op := _, type := _, pos := _, after := _, guard := _ }) (v := ?_) rfl (by kernel_rfl) (by kernel_rfl) (by kernel_rfl) (fun _ _ _ h => h) (Or.inl ⟨by rfl, ?_⟩) hHeld ?_
            rotate_left
            · (intro w hSw; (try dsimp only at hSw); go_simp); all_goals with_reducible rfl
            try simp only [Act.put, List.setIfInBounds_toArray, List.set_cons_zero, List.set_cons_succ]
            refine wpAnyH_take (i := 6) (oi := { dst := some 40, op := _, type := _, pos := _, after := _, guard := _ }) (v := ?_) rfl (by kernel_rfl) (by kernel_rfl) (by kernel_rfl) (fun _ _ _ h => h) (Or.inl ⟨by rfl, ?_⟩) hHeld ?_
            rotate_left
            · (intro w hSw; (try dsimp only at hSw); go_simp); all_goals with_reducible rfl
            try simp only [Act.put, List.setIfInBounds_toArray, List.set_cons_zero, List.set_cons_succ]
            refine wpAnyH_take (i := 7) (oi := { dst := some 41, op := _, type := _, pos := _, after := _, guard := _ }) (v := ?_) rfl (by kernel_rfl) (by kernel_rfl) (by kernel_rfl) (fun _ _ _ h => h) (Or.inl ⟨by rfl, ?_⟩) hHeld ?_
            rotate_left
            · (intro w hSw; (try dsimp only at hSw); go_simp); all_goals with_reducible rfl
            try simp only [Act.put, List.setIfInBounds_toArray, List.set_cons_zero, List.set_cons_succ]
            refine wpAnyH_take (i := 8) (oi := { dst := some 42, op := _, type := _, pos := _, after := _, guard := _ }) (v := ?_) rfl (by kernel_rfl) (by kernel_rfl) (by kernel_rfl) (fun _ _ _ h => h) (Or.inl ⟨by rfl, ?_⟩) hHeld ?_
            rotate_left
            · (intro w hSw; (try dsimp only at hSw); go_simp); all_goals with_reducible rfl
            try simp only [Act.put, List.setIfInBounds_toArray, List.set_cons_zero, List.set_cons_succ]
            refine wpAnyH_take (i := 9) (oi := { dst := some 43, op := _, type := _, pos := _, after := _, guard := _ }) (v := ?_) rfl (by kernel_rfl) (by kernel_rfl) (by kernel_rfl) (fun _ _ _ h => h) (Or.inl ⟨by rfl, ?_⟩) hHeld ?_
            rotate_left
            · (intro w hSw; (try dsimp only at hSw); go_simp); all_goals with_reducible rfl
            try simp only [Act.put, List.setIfInBounds_toArray, List.set_cons_zero, List.set_cons_succ]
            refine wpAnyH_take (i := 10) (oi := { dst := some 44, op := _, type := _, pos := _, after := _, guard := _ }) (v := ?_) rfl (by kernel_rfl) (by kernel_rfl) (by kernel_rfl) (fun _ _ _ h => h) (Or.inl ⟨by rfl, ?_⟩) hHeld ?_
            rotate_left
            · (intro w hSw; (try dsimp only at hSw); go_simp); all_goals with_reducible rfl
            try simp only [Act.put, List.setIfInBounds_toArray, List.set_cons_zero, List.set_cons_succ]
            refine wpAnyH_take (i := 11) (oi := { dst := some 45, op := _, type := _, pos := _, after := _, guard := _ }) (v := ?_) rfl (by kernel_rfl) (by kernel_rfl) (by kernel_rfl) (fun _ _ _ h => h) (Or.inl ⟨by rfl, ?_⟩) hHeld ?_
            rotate_left
            · (intro w hSw; (try dsimp only at hSw); go_simp); all_goals with_reducible rfl
            try simp only [Act.put, List.setIfInBounds_toArray, List.set_cons_zero, List.set_cons_succ]
            refine wpAnyH_take (i := 12) (oi := { dst := some 46, op := _, type := _, pos := _, after := _, guard := _ }) (v := ?_) rfl (by kernel_rfl) (by kernel_rfl) (by kernel_rfl) (fun _ _ _ h => h) (Or.inl ⟨by rfl, ?_⟩) hHeld ?_
            rotate_left
            · (intro w hSw; (try dsimp only at hSw); go_simp); all_goals with_reducible rfl
            try simp only [Act.put, List.setIfInBounds_toArray, List.set_cons_zero, List.set_cons_succ]
            refine wpAnyH_take (i := 13) (oi := { dst := some 47, op := _, type := _, pos := _, after := _, guard := _ }) (v := ?_) rfl (by kernel_rfl) (by kernel_rfl) (by kernel_rfl) (fun _ _ _ h => h) (Or.inl ⟨by rfl, ?_⟩) hHeld ?_
            rotate_left
            · (intro w hSw; (try dsimp only at hSw); go_simp); all_goals with_reducible rfl
            try simp only [Act.put, List.setIfInBounds_toArray, List.set_cons_zero, List.set_cons_succ]
            refine wpAnyH_take (i := 14) (oi := { dst := some 48, op := _, type := _, pos := _, after := _, guard := _ }) (v := ?_) rfl (by kernel_rfl) (by kernel_rfl) (by kernel_rfl) (fun _ _ _ h => h) (Or.inl ⟨by rfl, ?_⟩) hHeld ?_
            rotate_left
            · (intro w hSw; (try dsimp only at hSw); go_simp); all_goals with_reducible rfl
            try simp only [Act.put, List.setIfInBounds_toArray, List.set_cons_zero, List.set_cons_succ]
            refine wpAnyH_take (i := 15) (oi := { dst := some 49, op := _, type := _, pos := _, after := _, guard := _ }) (v := ?_) rfl (by kernel_rfl) (by kernel_rfl) (by kernel_rfl) (fun _ _ _ h => h) (Or.inl ⟨by rfl, ?_⟩) hHeld ?_
            rotate_left
            · (intro w hSw; (try dsimp only at hSw); go_simp); all_goals with_reducible rfl
            try simp only [Act.put, List.setIfInBounds_toArray, List.set_cons_zero, List.set_cons_succ]
            have hwl : (wvs hh).length = 8 := by rw [wvs_len, hhl]
            have HD := Lib.hid (And.intro (owns_drew HI.out.1) (And.intro (bl_drew HI.out.2.1) (And.intro (Cs.drew HI.out.2.2.1) (Cs.drew HI.out.2.2.2))))
            have hlast : ∃ lb, decide (nk = L) = lb := ⟨_, rfl⟩
            obtain ⟨lb, hlb⟩ := hlast
            rw [hlb] at heq HNX
            clear f1 f2 f3 f4 f5 f6 fk hmin HI
            refine wpAnyH_ready (rs := [0]) (by kernel_rfl) (by simp) (AllReadyH.cons (o := _) rfl (fun K hK => ?_) AllReadyH.nil)
            refine step_load_8 rfl _ rfl hb 0 rfl (Cs.range HD.out.2.2.2) hwl ?_
            refine hK.out _ _ trivial (fun hHeld => ?_)
            clear hK K
            refine wpAnyH_ready (rs := [16]) (by kernel_rfl) (by simp) (AllReadyH.cons (o := _) rfl (fun K hK => ?_) AllReadyH.nil)
            go_simp
            try rw [heq]
            try rw [hlb]
            refine (rblock_any (h := hh) (bs := (all.drop k).take 64) (min b.length nk) lb hhl (by rw [List.length_take, List.length_drop]; have := HA.out.2; have := HKL.out; omega) (by have := HKL.out; omega) (by omega) HP.out).mono ?_
            rintro e w6 ⟨rfl, b6⟩
            have k6 := Keep.of_below (S := fun _ => False) b6
            have H6 := Lib.hid (And.intro (k6.row HD.out.1 (fun _ _ e => e)) (And.intro (bl_then HD.out.2.1 b6) (And.intro (Cs.below HD.out.2.2.1 b6) (Cs.below HD.out.2.2.2 b6))))
            clear k6 b6 HD HP
            refine hK.out _ _ trivial (fun hHeld => ?_)
            clear hK K
            have hbl := blockP_len hh ((all.drop k).take 64) (min b.length nk) lb
            generalize blockP hh ((all.drop k).take 64) (min b.length nk) lb = hh2 at *
            have hwl2 : (wvs hh2).length = 8 := by rw [wvs_len, hbl]
            refine wpAnyH_ready (rs := [17]) (by kernel_rfl) (by simp) (AllReadyH.cons (o := _) rfl (fun K hK => ?_) AllReadyH.nil)
            refine step_store_8 rfl _ _ rfl hb rfl rfl H6.out.2.2.2 hwl hwl2 (wvs_one _) ?_
            intro w7 c7 k7
            have H7 := Lib.hid (And.intro (k7.row H6.out.1 (fun b hb' e => own_ne H6.out.1 H6.out.2.2.2 (by decide) (by rw [hb', e]))) (And.intro (((Keep.of_below (S := fun _ => False) H6.out.2.1).trans k7 (fun b hb' e => by omega)).below (Nat.le_refl _) (fun b e => e.elim)) (And.intro (Cs.keep (S := fun x => x = hb) H6.out.2.2.1 k7 (by omega)) c7)))
            refine hK.out _ _ trivial (fun hHeld => ?_)
            refine wpAnyH_done (by kernel_rfl) ?_ _
            clear hHeld hK K c7 k7 H6 heq
            go_wp2_with fail
            go_roundw
            case rel => exact ⟨nk, hh2, congrArg (Value.int .i64) (by have := HNK.out; omega), HNX, H7⟩
            case measure => have := HNK.out; have := HKL.out; simp [intOf]; omega
          · have fk : ¬ (k : Int) < (L : Int) := by omega
            have HE := Lib.hid (HR.out.end (by rw [HA.out.2]; exact hk))
            have hbg := kb_lt HI.out.2.2.2
            go_upto_region 11 with fail
            refine wp_world fun w6 hw => ?_
            have H6 : Hid (Hs w6 wr.heap.size (hsN hh 0) ∧ Ws w6 hb 33 hh ∧ Hs w6 w.heap.size (zeros 32) ∧ Below w.heap.size w w6) := by
              rw [hw, hsN_zero]
              exact Lib.hid ⟨hash_new _ _ rfl, kb_alloc HI.out.2.2.2 _, kb_alloc HI.out.2.2.1 _, bl_alloc HI.out.2.1 _⟩
            have hwb := kb_lt HI.out.2.2.1
            clear hw HI fk
            generalize wr.heap.size = g6 at *
            go_wp2_with fail
            go_loopw [7, 51, 52, 53, 54, 55, 56, 57, 58, 59, 60, 61, 62, 63, 64, 65, 66] (fun s7 _ _ _ _ _ _ _ _ _ _ _ _ _ _ _ _ wr => ∃ i : Nat, i ≤ 32 ∧ s7 = .int .i64 i ∧ Hid (Hs wr g6 (hsN hh i) ∧ Ws wr hb 33 hh ∧ Hs wr w.heap.size (zeros 32) ∧ Below w.heap.size w wr)) (fun s7 _ _ _ _ _ _ _ _ _ _ _ _ _ _ _ _ _ => 32 - (intOf s7).toNat)
            case atStart => exact ⟨0, by omega, rfl, H6⟩
            case round =>
              clear H6
              obtain ⟨i, hi, rfl, HI⟩ := hrel
              by_cases hi' : i < 32
              · obtain ⟨q, kk, hx⟩ := ix32 hi'
                obtain ⟨f0, f1, f2, f3, f4, f5, hq, hkk⟩ := hx
                have c0 := HI.out.2.1.at (i := q) (by omega)
                have z0 := kb_frozen HI.out.1 i
                have e0 := (Cs.at HI.out.1 i).trans (u8s_get (hsN hh i) i (by rw [hsN_len]; exact hi'))
                generalize (hsN hh i)[i]'(by rw [hsN_len]; exact hi') = y at e0
                have d0 := (Hs.put HI.out.1 i (hashAt hh i))
                rw [hsN_next hh hi'] at d0
                have hv : u8v (hashAt hh i) = .int .u8 (IntKind.u8.wrap (((wAt hh q).toNat : Int) / ((2 ^ (8 * kk) : Nat) : Int))) := by
                  rw [byte_val]; unfold hashAt u8v; rw [hq, hkk]
                have k8 := (Keep.refl (fun b => b = g6) wr).set (p := ⟨g6, i, none⟩) (fun _ => rfl) (u8v (hashAt hh i))
                have HN := Lib.hid (And.intro d0 (And.intro (HI.out.2.1.keep k8 (by omega)) (And.intro (Cs.keep (S := fun b => b = g6) HI.out.2.2.1 k8 (by omega)) (bl_set (p := ⟨g6, i, none⟩) (by show w.heap.size ≤ g6; omega) HI.out.2.2.2 (u8v (hashAt hh i))))))
                rw [hv] at HN
                have hk4 : kk < 4 := by omega
                clear d0 hv k8 hq hkk HI
                generalize wAt hh q = xw at *
                obtain rfl | rfl | rfl | rfl : kk = 0 ∨ kk = 1 ∨ kk = 2 ∨ kk = 3 := by omega
                · rw [show ((2 ^ (8 * 0) : Nat) : Int) = (1 : Int) from rfl, Int.ediv_one, IntKind.wrap_u8] at HN
                  go_wp2_with fail
                  go_roundw
                  case rel => exact ⟨i + 1, by omega, by go_num, HN⟩
                  case measure => simp [intOf]; omega
                · rw [show ((2 ^ (8 * 1) : Nat) : Int) = (256 : Int) from rfl, IntKind.wrap_u8] at HN
                  go_wp2_with fail
                  go_roundw
                  case rel => exact ⟨i + 1, by omega, by go_num, HN⟩
                  case measure => simp [intOf]; omega
                · rw [show ((2 ^ (8 * 2) : Nat) : Int) = (65536 : Int) from rfl, IntKind.wrap_u8] at HN
                  go_wp2_with fail
                  go_roundw
                  case rel => exact ⟨i + 1, by omega, by go_num, HN⟩
                  case measure => simp [intOf]; omega
                · rw [show ((2 ^ (8 * 3) : Nat) : Int) = (16777216 : Int) from rfl, IntKind.wrap_u8] at HN
                  go_wp2_with fail
                  go_roundw
                  case rel => exact ⟨i + 1, by omega, by go_num, HN⟩
                  case measure => simp [intOf]; omega
              · obtain rfl : i = 32 := by omega
                rw [hsN_end, HE.out] at HI
                have hsl := sumB_len b
                generalize hE : sumB b = R at *
                have HE2 := Lib.hid hE
                clear hE
                have hul : (u8s R).length = 32 := by rw [u8s_len, hsl]
                have hz32 : (u8s (zeros 32)).length = 32 := by rw [u8s_len, zeros_len]
                have hrg := Cs.range HI.out.1
                go_wp2_with (first
                  | (with_reducible show wpList _ _ _ (⟨some 67, _, _, _, _, _⟩ :: _) _ _; refine wpList_load_h _ rfl rfl g6 0 rfl hrg hul ?_)
                  | (refine wpList_store_h (op := ⟨none, .store 26 _ _, _, _, _, _⟩) (cs := u8s R) rfl _ _ rfl w.heap.size rfl rfl HI.out.2.2.1 hz32 hul (u8s_one _) ?_; intro w9 c9 k9))
                refine bodyPost_ret (results_h rfl _ _ w.heap.size (cs := u8s R) hul rfl c9) rfl ⟨by rw [HE2.out], ?_⟩
                exact ((Keep.of_below (S := fun _ => False) HI.out.2.2.2).trans k9 (fun b hb e => by omega)).below (Nat.le_refl _) (fun b e => e.elim)
end Go.Proofs.YtmfajippoielhaaDoor
