/- Both Encode. Printed by wip/mkcm30.py. -/
import Derived.Test.YtooghjnddifpdaaCm28
namespace Go.Proofs.Ytooghjnddifpdaa
open Go.RowKit Go.Proofs.Ytooghjnddifpdaa.Cm Go.Proofs.Ytooghjnddifpdaa.Wi BigFrame
set_option linter.unusedSimpArgs false
set_option linter.unusedVariables false
attribute [local go_sem] cell_alloc_some frozen_alloc_some

theorem putS_ok {lim : Int} {bs f : List UInt8} (h : (bs.length : Int) + f.length ≤ lim) : putS lim bs 0 true f = ⟨bs ++ f, 0⟩ := by
  unfold putS
  rw [if_neg (by simp), if_neg (by simp), if_neg (by omega)]
/-- A vote's bytes. -/
def encV (v : Vt) : List UInt8 := numL v.p.toNat ++ wrdL v.g
theorem encV_len (v : Vt) : (encV v).length ≤ 17 := by
  have := numL_len v.p.toNat
  have := wrdL_len v.g
  simp only [encV, List.length_append]; omega
/-- The bytes, so many votes far. -/
def encAt (c : C) (k : Nat) : List UInt8 := ((numL c.h.toNat ++ c.x) ++ numL c.vs.length) ++ (c.vs.take k).flatMap encV
def encB (c : C) : List UInt8 := encAt c c.vs.length
theorem flat_len : ∀ l : List Vt, (l.flatMap encV).length ≤ 17 * l.length
  | [] => by simp
  | v :: l => by
    have := flat_len l
    have := encV_len v
    simp only [List.flatMap_cons, List.length_append, List.length_cons]; omega
theorem encAt_len {c : C} (hx : c.x.length = 32) (k : Nat) : (encAt c k).length ≤ 50 + 17 * k := by
  have h1 := numL_len c.h.toNat
  have h2 := numL_len c.vs.length
  have h3 := flat_len (c.vs.take k)
  have h4 : (c.vs.take k).length ≤ k := by simp; omega
  simp only [encAt, List.length_append]; omega
theorem encAt_next {c : C} {k : Nat} (hk : k < c.vs.length) : encAt c k ++ numL (vAt c.vs k).p.toNat ++ wrdL (vAt c.vs k).g = encAt c (k + 1) := by
  unfold encAt
  rw [List.take_add_one, vAt_some hk]
  simp [encV]
theorem encAt_zero (c : C) : encAt c 0 = (numL c.h.toNat ++ c.x) ++ numL c.vs.length := by simp [encAt]
theorem rs_mem : ∀ {L : List Vt} {last : Int}, Cm.Rs last L → ∀ v ∈ L, 0 ≤ v.p ∧ v.p < 64
  | [], _, _, v, hv => by simp at hv
  | u :: L, last, h, v, hv => by
    obtain ⟨h0, h1, h2, h3⟩ := h
    rcases List.mem_cons.1 hv with rfl | hv
    · exact ⟨h0, h1⟩
    · exact rs_mem h3 v hv
theorem chk_parts {c : C} (h : chk c = 0) : 1 ≤ c.h ∧ c.h ≤ 1073741824 ∧ c.vs.length ≤ 64 ∧ ∀ v ∈ c.vs, 0 ≤ v.p ∧ v.p < 64 := by
  unfold chk at h
  split at h
  · cases h
  · split at h
    · cases h
    · exact ⟨by omega, by omega, by omega, rs_mem ((chkV_rs _ _).1 h)⟩
theorem vAt_mem {l : List Vt} {k : Nat} (h : k < l.length) : vAt l k ∈ l := List.mem_of_getElem? (vAt_some h)
/-- What Encode tells. -/
def EncOut (c : C) (w : World) (e : Ending) (w' : World) : Prop := ∃ v, e = .returned (.tuple #[v, .int .i64 (chk c : Int)]) ∧ NewBytes w w' v (if chk c = 0 then encB c else [])

/-- What Encode has written. -/
structure En (w W : World) (c : C) (v : Value) (p : Nat) (s : Value) (bs : List UInt8) : Prop where
  c0 : W.heap[w.heap.size]? = some (.cells (ccs c v).toArray 26 (0, 0))
  wr : Wr W (w.heap.size + 1) p 1048576 bs 0 s
  b : Below w.heap.size w W
theorem En.below {w W W' : World} {c : C} {v : Value} {p : Nat} {s : Value} {bs : List UInt8} (h : En w W c v p s bs) (k : Below W.heap.size W W') : En w W' c v p s bs := ⟨kb_below k h.c0, h.wr.below k, bl_then h.b k⟩
theorem En.put {w W W' : World} {c : C} {v : Value} {p : Nat} {s : Value} {bs bs' : List UInt8} (h : En w W c v p s bs) (k : WrTo W W' (w.heap.size + 1) p 1048576 s bs' 0) : ∃ s', En w W' c v p s' bs' := by
  obtain ⟨s', h1, h2, h3⟩ := k
  exact ⟨s', h2.kb h.c0 (fun e => by have := (h.wr.ltS e).1; omega), h1, ((Keep.of_below (S := fun _ => False) h.b).trans h2 (fun b hb e => by have := (h.wr.ltS e).1; omega)).below (Nat.le_refl _) (fun b e => e.elim)⟩
theorem En.num {w W : World} {c : C} {v : Value} {p : Nat} {s : Value} {bs : List UInt8} (h : En w W c v p s bs) (n : Int) (h0 : 0 ≤ n) (hn : n < 9223372036854775808) (hl : bs.length ≤ 4000) :
    Calls Try.prog 65 #[.pointer (some ⟨p, 0, none⟩), .int .i64 n] W fun e W' => e = .returned (.int .i64 0) ∧ Keep (WrS p s) W W' ∧ ∃ s', En w W' c v p s' (bs ++ numL n.toNat) := by
  have hk := wNum_any n hn h.wr
  rw [decide_eq_true h0] at hk
  refine hk.mono fun e W' hp => ?_
  have := numL_len n.toNat
  obtain ⟨h1, h2⟩ := hp
  rw [putS_ok (by omega)] at h1 h2
  exact ⟨h1, h2.choose_spec.2.1, h.put h2⟩
theorem En.word {w W : World} {c : C} {v : Value} {p : Nat} {s : Value} {bs : List UInt8} (h : En w W c v p s bs) (n : Nat) (hn : n < 18446744073709551616) (hl : bs.length ≤ 4000) :
    Calls Try.prog 67 #[.pointer (some ⟨p, 0, none⟩), .int .u64 n] W fun e W' => e = .returned (.int .i64 0) ∧ Keep (WrS p s) W W' ∧ ∃ s', En w W' c v p s' (bs ++ wrdL n) := by
  refine (wWord_any n hn h.wr).mono fun e W' hp => ?_
  have := wrdL_len n
  obtain ⟨h1, h2⟩ := hp
  rw [putS_ok (by omega)] at h1 h2
  exact ⟨h1, h2.choose_spec.2.1, h.put h2⟩
theorem En.hash {w W : World} {c : C} {v : Value} {p : Nat} {s : Value} {bs : List UInt8} (h : En w W c v p s bs) (l : List UInt8) (hx : l.length = 32) (hl : bs.length ≤ 4000) :
    Calls Try.prog 66 #[.pointer (some ⟨p, 0, none⟩), .agg (u8s l).toArray] W fun e W' => e = .returned (.int .i64 0) ∧ Keep (WrS p s) W W' ∧ ∃ s', En w W' c v p s' (bs ++ l) := by
  refine (wHash_any l hx h.wr).mono fun e W' hp => ?_
  obtain ⟨h1, h2⟩ := hp
  rw [putS_ok (by omega)] at h1 h2
  exact ⟨h1, h2.choose_spec.2.1, h.put h2⟩

set_option maxRecDepth 100000 in
set_option maxHeartbeats 8000000 in
theorem Encode_any {w : World} {c : C} {v : Value} (hx : c.x.length = 32) (hv : VRow w v c.vs) (hl : c.vs.length ≤ 1000000) (hg : ∀ u ∈ c.vs, u.g < 18446744073709551616) :
    Calls Try.prog 33 #[.agg (ccs c v).toArray] w (EncOut c w) := by
  have q0 := ccs_0 c v
  have q33 := ccs_33 hx v
  have HX := Lib.hid hx
  have HV := Lib.hid hv
  have HG := Lib.hid hg
  have honv := hv.one
  clear hx hv hg
  go_enter Try.func33, Try.ntmps33
  go_upto_region 1 with fail
  refine wp_world fun wA hwA => ?_
  have HA := Lib.hid (show wA.heap[w.heap.size]? = some (.cells (ccs c v).toArray 26 (0, 0)) ∧ Below w.heap.size w wA by rw [hwA]; exact ⟨kb_new rfl _, bl_alloc (Below.refl _ _) _⟩)
  clear hwA
  go_wp2_with (with_reducible refine wpList_load_cw _ rfl (by kernel_rfl) _ rfl HA.out.1 HX.out ?_)
  refine (Check_any' HX.out (HV.out.below HA.out.2) hl).mono ?_
  rintro e w1 ⟨rfl, b1⟩
  have HA := Lib.hid (And.intro (kb_below b1 HA.out.1) (bl_then HA.out.2 b1))
  clear b1
  obtain ⟨ck, hck⟩ : ∃ ck, ck = chk c := ⟨_, rfl⟩
  rw [← hck]
  have HC := Lib.hid hck.symm
  clear hck
  by_cases hc0 : ck = 0
  · subst hc0
    obtain ⟨g1, g2, g3, g4⟩ := chk_parts HC.out
    have HP := Lib.hid g4
    have HQ := Lib.hid (And.intro g1 (And.intro g2 g3))
    clear g4 hl
    go_wp2_with fail
    refine (NewWriter_yes 1048576 w1 (by omega) (by omega)).mono ?_
    rintro e w2 ⟨rfl, r2, b2⟩
    have HE := Lib.hid (show En w w2 c v w1.heap.size (.slice none 0 0) [] from ⟨kb_below b2 HA.out.1, ⟨r2.st, owns_mono r2.row (kb_lt HA.out.1), kb_lt HA.out.1, r2.len, r2.l0, r2.l1⟩, bl_then HA.out.2 b2⟩)
    clear r2 b2 HA
    generalize w1.heap.size = p at *
    have e0 := (kb_cell HE.out.c0 0).trans (by simpa using q0)
    go_wp2_with fail
    refine (HE.out.num c.h (by omega) (by omega) (by simp)).mono ?_
    rintro e w3 ⟨rfl, _, s3, h3⟩
    have HE := Lib.hid h3
    have L1 := numL_len c.h.toNat
    clear h3 e0
    go_wp2_with (with_reducible refine wpList_load_hw _ rfl (by kernel_rfl) _ rfl HE.out.c0 HX.out ?_)
    refine (HE.out.hash c.x HX.out (by simp; omega)).mono ?_
    rintro e w4 ⟨rfl, _, s4, h4⟩
    have HE := Lib.hid h4
    clear h4
    have e33 := (kb_cell HE.out.c0 33).trans (by simpa using q33)
    obtain ⟨A, cap, hvv⟩ := HV.out.form
    subst hvv
    obtain ⟨n, hn⟩ : ∃ n, c.vs.length = n := ⟨_, rfl⟩
    have HN := Lib.hid hn
    rw [hn] at HE HQ e33 q33 honv g3 ⊢
    clear hn
    go_wp2_with fail
    refine (HE.out.num (n : Int) (by omega) (by omega) (by have := HX.out; simp; omega)).mono ?_
    rintro e w5 ⟨rfl, _, s5, h5⟩
    have HE := Lib.hid (show En w w5 c (.slice A n cap) p s5 (encAt c 0) by rw [encAt_zero, HN.out]; simpa using h5)
    clear h5 e33 L1
    have e33 := (kb_cell HE.out.c0 33).trans (by simpa using q33)
    go_wp2_with fail
    go_loopw [8, 34, 35, 36, 37, 38, 39, 40, 41, 42, 43, 44, 45, 46] (fun _ s34 _ _ _ _ _ _ _ _ _ _ _ _ wr => ∃ (k : Nat) (s : Value), k ≤ n ∧ s34 = .int .i64 k ∧ Hid (En w wr c (.slice A n cap) p s (encAt c k))) (fun _ s34 _ _ _ _ _ _ _ _ _ _ _ _ _ => n - (intOf s34).toNat)
    case atStart => exact ⟨0, _, by omega, rfl, HE⟩
    case round =>
      clear HE e33
      obtain ⟨k, s, hk, rfl, hE⟩ := hrel
      have HE := hE
      clear hE
      have hal := encAt_len HX.out k
      by_cases hlt : k < n
      · have HLT := Lib.hid (show k < c.vs.length by rw [HN.out]; exact hlt)
        obtain ⟨b, off, cap', hA, hbl, d0', d1'⟩ := HV.out.at HLT.out
        have d0 := (HE.out.b.cell (p := ⟨b, off + k * 2, none⟩) hbl).trans d0'
        have d1 := (HE.out.b.cell (p := ⟨b, off + k * 2 + 1, none⟩) hbl).trans d1'
        obtain ⟨rfl, rfl⟩ : A = some ⟨b, off, none⟩ ∧ cap = cap' := by injection hA with h1 h2 h3; exact ⟨h1, h3⟩
        clear hA d0' d1'
        have hp := HP.out _ (vAt_mem HLT.out)
        have hgg := HG.out _ (vAt_mem HLT.out)
        go_upto_region 11 with fail
        refine wp_world fun wB hwB => ?_
        have HE0 := HE
        have HZ := Lib.hid (show wB.heap[wr.heap.size]? = some (.cells #[.int .i64 (vAt c.vs k).p, .int .u64 (vAt c.vs k).g] 29 (0, 0)) by rw [hwB]; exact kb_new rfl _)
        have HE := Lib.hid (show En w wB c (.slice (some ⟨b, off, none⟩) n cap) p s (encAt c k) by rw [hwB]; exact HE0.out.below (bl_alloc (Below.refl _ _) _))
        have hps : ∀ b, WrS p s b → b < wr.heap.size := fun b hb => (HE0.out.wr.ltS hb).2
        have HPS := Lib.hid hps
        clear hwB HE0 hps d0 d1
        have x0 := kb_cell HZ.out 0
        have x1 := kb_cell HZ.out 1
        simp at x0 x1
        go_wp2_with fail
        refine (HE.out.num (vAt c.vs k).p hp.1 (by omega) (by omega)).mono ?_
        rintro e w7 ⟨rfl, k7, s7, h7⟩
        have HE := Lib.hid h7
        have HZ := Lib.hid (k7.kb HZ.out (fun e => by have := HPS.out _ e; omega))
        clear h7 k7 x0 x1
        have x0 := kb_cell HZ.out 0
        have x1 := kb_cell HZ.out 1
        simp at x0 x1
        go_wp2_with fail
        refine (HE.out.word (vAt c.vs k).g hgg (by have := numL_len (vAt c.vs k).p.toNat; simp only [List.length_append]; omega)).mono ?_
        rintro e w8 ⟨rfl, _, s8, h8⟩
        have HE := Lib.hid (show En w w8 c (.slice (some ⟨b, off, none⟩) n cap) p s8 (encAt c (k + 1)) by rw [← encAt_next HLT.out]; exact h8)
        clear h8 x0 x1
        go_wp2_with fail
        go_roundw
        case rel => exact ⟨k + 1, s8, by omega, by go_num, HE⟩
        case measure => simp [intOf]; omega
      · obtain rfl : k = n := by omega
        have HEB := Lib.hid (show encAt c k = encB c by unfold encB; rw [HN.out])
        go_wp2_with fail
        refine (wDone_any HE.out.wr).mono ?_
        rintro e w7 ⟨u, rfl, n7⟩
        have h7 : NewBytes w w7 u (encB c) := by
          have := n7
          rw [doneL, if_pos rfl, HEB.out] at this
          exact ⟨owns_mono this.1 HE.out.b.size, bl_then HE.out.b this.2⟩
        have H7 := Lib.hid h7
        clear n7 h7
        go_wp2_with fail
        go_ret2
        exact ⟨u, by rw [HC.out]; rfl, by rw [HC.out, if_pos rfl]; exact H7.out⟩
  · have hne : ((ck : Int) != 0) = true := by simpa using hc0
    have HNZ := Lib.hid hc0
    clear hc0
    go_wp2_with fail
    go_ret2
    exact ⟨.slice none 0 0, by rw [HC.out]; rfl, by rw [HC.out, if_neg HNZ.out]; exact NewBytes.none HA.out.2⟩

/-- What rEncode has written. -/
structure rEn (w W : World) (c : C) (v : Value) (p : Nat) (s : Value) (bs : List UInt8) : Prop where
  c0 : W.heap[w.heap.size]? = some (.cells (ccs c v).toArray 26 (0, 0))
  wr : RWr W (w.heap.size + 1) p 65536 bs 0 s
  b : Below w.heap.size w W
theorem rEn.below {w W W' : World} {c : C} {v : Value} {p : Nat} {s : Value} {bs : List UInt8} (h : rEn w W c v p s bs) (k : Below W.heap.size W W') : rEn w W' c v p s bs := ⟨kb_below k h.c0, h.wr.below k, bl_then h.b k⟩
theorem rEn.put {w W W' : World} {c : C} {v : Value} {p : Nat} {s : Value} {bs bs' : List UInt8} (h : rEn w W c v p s bs) (k : RWrTo W W' (w.heap.size + 1) p 65536 s bs' 0) : ∃ s', rEn w W' c v p s' bs' := by
  obtain ⟨s', h1, h2, h3⟩ := k
  exact ⟨s', h2.kb h.c0 (fun e => by have := (h.wr.ltS e).1; omega), h1, ((Keep.of_below (S := fun _ => False) h.b).trans h2 (fun b hb e => by have := (h.wr.ltS e).1; omega)).below (Nat.le_refl _) (fun b e => e.elim)⟩
theorem rEn.num {w W : World} {c : C} {v : Value} {p : Nat} {s : Value} {bs : List UInt8} (h : rEn w W c v p s bs) (n : Int) (h0 : 0 ≤ n) (hn : n < 9223372036854775808) (hl : bs.length ≤ 4000) :
    Calls Try.prog 70 #[.pointer (some ⟨p, 0, none⟩), .int .i64 n] W fun e W' => e = .returned (.int .i64 0) ∧ Keep (WrS p s) W W' ∧ ∃ s', rEn w W' c v p s' (bs ++ numL n.toNat) := by
  have hk := rwNum_any n hn h.wr
  rw [decide_eq_true h0] at hk
  refine hk.mono fun e W' hp => ?_
  have := numL_len n.toNat
  obtain ⟨h1, h2⟩ := hp
  rw [putS_ok (by omega)] at h1 h2
  exact ⟨h1, h2.choose_spec.2.1, h.put h2⟩
theorem rEn.word {w W : World} {c : C} {v : Value} {p : Nat} {s : Value} {bs : List UInt8} (h : rEn w W c v p s bs) (n : Nat) (hn : n < 18446744073709551616) (hl : bs.length ≤ 4000) :
    Calls Try.prog 72 #[.pointer (some ⟨p, 0, none⟩), .int .u64 n] W fun e W' => e = .returned (.int .i64 0) ∧ Keep (WrS p s) W W' ∧ ∃ s', rEn w W' c v p s' (bs ++ wrdL n) := by
  refine (rwWord_any n hn h.wr).mono fun e W' hp => ?_
  have := wrdL_len n
  obtain ⟨h1, h2⟩ := hp
  rw [putS_ok (by omega)] at h1 h2
  exact ⟨h1, h2.choose_spec.2.1, h.put h2⟩
theorem rEn.hash {w W : World} {c : C} {v : Value} {p : Nat} {s : Value} {bs : List UInt8} (h : rEn w W c v p s bs) (l : List UInt8) (hx : l.length = 32) (hl : bs.length ≤ 4000) :
    Calls Try.prog 71 #[.pointer (some ⟨p, 0, none⟩), .agg (u8s l).toArray] W fun e W' => e = .returned (.int .i64 0) ∧ Keep (WrS p s) W W' ∧ ∃ s', rEn w W' c v p s' (bs ++ l) := by
  refine (rwHash_any l hx h.wr).mono fun e W' hp => ?_
  obtain ⟨h1, h2⟩ := hp
  rw [putS_ok (by omega)] at h1 h2
  exact ⟨h1, h2.choose_spec.2.1, h.put h2⟩

set_option maxRecDepth 100000 in
set_option maxHeartbeats 8000000 in
theorem rEncode_any {w : World} {c : C} {v : Value} (hx : c.x.length = 32) (hv : VRow w v c.vs) (hl : c.vs.length ≤ 1000000) (hg : ∀ u ∈ c.vs, u.g < 18446744073709551616) :
    Calls Try.prog 34 #[.agg (ccs c v).toArray] w (EncOut c w) := by
  have q0 := ccs_0 c v
  have q33 := ccs_33 hx v
  have HX := Lib.hid hx
  have HV := Lib.hid hv
  have HG := Lib.hid hg
  have honv := hv.one
  clear hx hv hg
  go_enter Try.func34, Try.ntmps34
  go_upto_region 1 with fail
  refine wp_world fun wA hwA => ?_
  have HA := Lib.hid (show wA.heap[w.heap.size]? = some (.cells (ccs c v).toArray 26 (0, 0)) ∧ Below w.heap.size w wA by rw [hwA]; exact ⟨kb_new rfl _, bl_alloc (Below.refl _ _) _⟩)
  clear hwA
  go_wp2_with (with_reducible refine wpList_load_cw _ rfl (by kernel_rfl) _ rfl HA.out.1 HX.out ?_)
  refine (rCheck_any' HX.out (HV.out.below HA.out.2) hl).mono ?_
  rintro e w1 ⟨rfl, b1⟩
  have HA := Lib.hid (And.intro (kb_below b1 HA.out.1) (bl_then HA.out.2 b1))
  clear b1
  obtain ⟨ck, hck⟩ : ∃ ck, ck = chk c := ⟨_, rfl⟩
  rw [← hck]
  have HC := Lib.hid hck.symm
  clear hck
  by_cases hc0 : ck = 0
  · subst hc0
    obtain ⟨g1, g2, g3, g4⟩ := chk_parts HC.out
    have HP := Lib.hid g4
    have HQ := Lib.hid (And.intro g1 (And.intro g2 g3))
    clear g4 hl
    go_wp2_with fail
    refine (rNewWriter_yes 65536 w1 (by omega) (by omega)).mono ?_
    rintro e w2 ⟨rfl, r2, b2⟩
    have HE := Lib.hid (show rEn w w2 c v w1.heap.size (.slice none 0 0) [] from ⟨kb_below b2 HA.out.1, ⟨r2.st, owns_mono r2.row (kb_lt HA.out.1), kb_lt HA.out.1, r2.len, r2.l0, r2.l1⟩, bl_then HA.out.2 b2⟩)
    clear r2 b2 HA
    generalize w1.heap.size = p at *
    have e0 := (kb_cell HE.out.c0 0).trans (by simpa using q0)
    go_wp2_with fail
    refine (HE.out.num c.h (by omega) (by omega) (by simp)).mono ?_
    rintro e w3 ⟨rfl, _, s3, h3⟩
    have HE := Lib.hid h3
    have L1 := numL_len c.h.toNat
    clear h3 e0
    go_wp2_with (with_reducible refine wpList_load_hw _ rfl (by kernel_rfl) _ rfl HE.out.c0 HX.out ?_)
    refine (HE.out.hash c.x HX.out (by simp; omega)).mono ?_
    rintro e w4 ⟨rfl, _, s4, h4⟩
    have HE := Lib.hid h4
    clear h4
    have e33 := (kb_cell HE.out.c0 33).trans (by simpa using q33)
    obtain ⟨A, cap, hvv⟩ := HV.out.form
    subst hvv
    obtain ⟨n, hn⟩ : ∃ n, c.vs.length = n := ⟨_, rfl⟩
    have HN := Lib.hid hn
    rw [hn] at HE HQ e33 q33 honv g3 ⊢
    clear hn
    go_wp2_with fail
    refine (HE.out.num (n : Int) (by omega) (by omega) (by have := HX.out; simp; omega)).mono ?_
    rintro e w5 ⟨rfl, _, s5, h5⟩
    have HE := Lib.hid (show rEn w w5 c (.slice A n cap) p s5 (encAt c 0) by rw [encAt_zero, HN.out]; simpa using h5)
    clear h5 e33 L1
    have e33 := (kb_cell HE.out.c0 33).trans (by simpa using q33)
    go_wp2_with fail
    go_loopw [7, 30, 31, 32, 33, 34, 35, 36, 37, 38, 39, 40, 41, 42, 43, 44, 45, 46, 47, 48, 49, 50, 51, 52] (fun s7 _ _ _ _ _ _ _ _ _ _ _ _ _ _ _ _ _ _ _ _ _ _ _ wr => ∃ (k : Nat) (s : Value), k ≤ n ∧ s7 = .int .i64 k ∧ Hid (rEn w wr c (.slice A n cap) p s (encAt c k))) (fun s7 _ _ _ _ _ _ _ _ _ _ _ _ _ _ _ _ _ _ _ _ _ _ _ _ => n - (intOf s7).toNat)
    case atStart => exact ⟨0, _, by omega, rfl, HE⟩
    case round =>
      clear HE e33
      obtain ⟨k, s, hk, rfl, hE⟩ := hrel
      have HE := hE
      clear hE
      have hal := encAt_len HX.out k
      by_cases hlt : k < n
      · have HLT := Lib.hid (show k < c.vs.length by rw [HN.out]; exact hlt)
        obtain ⟨b, off, cap', hA, hbl, d0', d1'⟩ := HV.out.at HLT.out
        have d0 := (HE.out.b.cell (p := ⟨b, off + k * 2, none⟩) hbl).trans d0'
        have d1 := (HE.out.b.cell (p := ⟨b, off + k * 2 + 1, none⟩) hbl).trans d1'
        obtain ⟨rfl, rfl⟩ : A = some ⟨b, off, none⟩ ∧ cap = cap' := by injection hA with h1 h2 h3; exact ⟨h1, h3⟩
        clear hA
        have hp := HP.out _ (vAt_mem HLT.out)
        have hgg := HG.out _ (vAt_mem HLT.out)
        have e33 := (kb_cell HE.out.c0 33).trans (by simpa using q33)
        go_wp2_with fail
        refine (HE.out.num (vAt c.vs k).p hp.1 (by omega) (by omega)).mono ?_
        rintro e w7 ⟨rfl, _, t7, h7⟩
        have HE := Lib.hid h7
        clear h7 d0 d1 e33
        have d0 := (HE.out.b.cell (p := ⟨b, off + k * 2, none⟩) hbl).trans d0'
        have d1 := (HE.out.b.cell (p := ⟨b, off + k * 2 + 1, none⟩) hbl).trans d1'
        have e33 := (kb_cell HE.out.c0 33).trans (by simpa using q33)
        go_wp2_with fail
        refine (HE.out.word (vAt c.vs k).g hgg (by have := numL_len (vAt c.vs k).p.toNat; simp only [List.length_append]; omega)).mono ?_
        rintro e w8 ⟨rfl, _, s8, h8⟩
        have HE := Lib.hid (show rEn w w8 c (.slice (some ⟨b, off, none⟩) n cap) p s8 (encAt c (k + 1)) by rw [← encAt_next HLT.out]; exact h8)
        clear h8 d0 d1 d0' d1' e33
        go_wp2_with fail
        go_roundw
        case rel => exact ⟨k + 1, s8, by omega, by go_num, HE⟩
        case measure => simp [intOf]; omega
      · obtain rfl : k = n := by omega
        have HEB := Lib.hid (show encAt c k = encB c by unfold encB; rw [HN.out])
        have e33 := (kb_cell HE.out.c0 33).trans (by simpa using q33)
        go_wp2_with fail
        refine (rwDone_any HE.out.wr).mono ?_
        rintro e w7 ⟨u, rfl, n7⟩
        have h7 : NewBytes w w7 u (encB c) := by
          have := n7
          rw [doneL, if_pos rfl, HEB.out] at this
          exact ⟨owns_mono this.1 HE.out.b.size, bl_then HE.out.b this.2⟩
        have H7 := Lib.hid h7
        clear n7 h7
        go_wp2_with fail
        go_ret2
        exact ⟨u, by rw [HC.out]; rfl, by rw [HC.out, if_pos rfl]; exact H7.out⟩
  · have hne : ((ck : Int) != 0) = true := by simpa using hc0
    have HNZ := Lib.hid hc0
    clear hc0
    go_wp2_with fail
    go_ret2
    exact ⟨.slice none 0 0, by rw [HC.out]; rfl, by rw [HC.out, if_neg HNZ.out]; exact NewBytes.none HA.out.2⟩
end Go.Proofs.Ytooghjnddifpdaa
