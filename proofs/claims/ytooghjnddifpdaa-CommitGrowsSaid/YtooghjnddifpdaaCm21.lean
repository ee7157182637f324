/- The walk of CommitAdds. -/
import Derived.Test.YtooghjnddifpdaaCm20
import Derived.Deep.Cut
import Derived.Deep.DeepCutAuto
namespace Go.Proofs.Ytooghjnddifpdaa
open Go.RowKit Go.Proofs.Ytooghjnddifpdaa.Cm BigFrame
set_option linter.unusedSimpArgs false
set_option linter.unusedVariables false
attribute [local go_sem] cell_alloc_some frozen_alloc_some

/-- A commit that came in. -/
structure Ci (w : World) (c : C) (v : Value) : Prop where
  x : c.x.length = 32
  r : VRow w v c.vs
theorem Ci.below {w w' : World} {c : C} {v : Value} (h : Ci w c v) (k : Below w.heap.size w w') : Ci w' c v := ⟨h.x, h.r.below k⟩
structure AdIn (w W : World) (a b : C) (u v : Value) (y : Vt) : Prop where
  e0 : W.heap[w.heap.size]? = some (.cells (ccs a u).toArray 26 (0, 0))
  e1 : W.heap[w.heap.size + 1]? = some (.cells (ccs b v).toArray 26 (0, 0))
  e2 : W.heap[w.heap.size + 2]? = some (.cells #[.int .i64 y.p, .int .u64 y.g] 29 (0, 0))
  b : Below w.heap.size w W
theorem AdIn.size {w W : World} {a b : C} {u v : Value} {y : Vt} (h : AdIn w W a b u v y) : w.heap.size + 3 ≤ W.heap.size := kb_lt h.e2
theorem AdIn.keep {w W W' : World} {a b : C} {u v : Value} {y : Vt} {S : Nat → Prop} (h : AdIn w W a b u v y) (k : Keep S W W') (hS : ∀ x, S x → w.heap.size + 3 ≤ x) : AdIn w W' a b u v y where
  e0 := k.kb h.e0 (fun e => by have := hS _ e; omega)
  e1 := k.kb h.e1 (fun e => by have := hS _ e; omega)
  e2 := k.kb h.e2 (fun e => by have := hS _ e; omega)
  b := ((Keep.of_below (S := fun _ => False) h.b).trans k (fun b h e => by have := hS _ e; omega)).below (Nat.le_refl _) (fun b e => e.elim)
theorem AdIn.below {w W W' : World} {a b : C} {u v : Value} {y : Vt} (h : AdIn w W a b u v y) (k : Below W.heap.size W W') : AdIn w W' a b u v y := h.keep (S := fun _ => False) (Keep.of_below k) (fun _ e => e.elim)
/-- Both commits and their copies; all of it below M. -/
structure Adst (w W : World) (a b : C) (u v : Value) (y : Vt) (o7 o8 : Nat) (p q : Value) (M : Nat) : Prop where
  ai : AdIn w W a b u v y
  c7 : W.heap[o7]? = some (.cells (ccs a p).toArray 26 (0, 0))
  c8 : W.heap[o8]? = some (.cells (ccs b q).toArray 26 (0, 0))
  rp : W.ownsRow w.heap.size 29 2 p a.vs.length (vcs a.vs)
  rq : W.ownsRow w.heap.size 29 2 q b.vs.length (vcs b.vs)
  m : w.heap.size + 3 ≤ M
  mW : M ≤ W.heap.size
  m7 : o7 < M
  m8 : o8 < M
  mp : ∀ b, p.ownBlock = some b → b < M
  mq : ∀ b, q.ownBlock = some b → b < M
theorem Adst.keep {w W W' : World} {a b : C} {u v : Value} {y : Vt} {o7 o8 : Nat} {p q : Value} {M : Nat} {S : Nat → Prop} (h : Adst w W a b u v y o7 o8 p q M) (k : Keep S W W') (hS : ∀ x, S x → M ≤ x) : Adst w W' a b u v y o7 o8 p q M where
  ai := h.ai.keep k (fun x e => Nat.le_trans h.m (hS x e))
  c7 := k.kb h.c7 (fun e => by have := hS _ e; have := h.m7; omega)
  c8 := k.kb h.c8 (fun e => by have := hS _ e; have := h.m8; omega)
  rp := k.row h.rp (fun b hb e => by have := hS _ e; have := h.mp b hb; omega)
  rq := k.row h.rq (fun b hb e => by have := hS _ e; have := h.mq b hb; omega)
  m := h.m
  mW := Nat.le_trans h.mW k.size
  m7 := h.m7
  m8 := h.m8
  mp := h.mp
  mq := h.mq
theorem Adst.below {w W W' : World} {a b : C} {u v : Value} {y : Vt} {o7 o8 : Nat} {p q : Value} {M : Nat} (h : Adst w W a b u v y o7 o8 p q M) (k : Below W.heap.size W W') : Adst w W' a b u v y o7 o8 p q M := h.keep (S := fun _ => False) (Keep.of_below k) (fun _ e => e.elim)
abbrev OwnV (w W : World) (p : Value) (l : List Vt) : Prop := W.ownsRow w.heap.size 29 2 p l.length (vcs l)
theorem OwnV.below {w W W' : World} {p : Value} {l : List Vt} (h : OwnV w W p l) (k : Below W.heap.size W W') : OwnV w W' p l := (Keep.of_below (S := fun _ => False) k).row h (fun _ _ e => e)
abbrev ComAt (W : World) (o : Nat) (c : C) (v : Value) : Prop := W.heap[o]? = some (.cells (ccs c v).toArray 26 (0, 0))
theorem two_stores1 {w W W' : World} {a b : C} {u v : Value} {y : Vt} {o7 o8 : Nat} {p q : Value} (hA : AdIn w W a b u v y) (hp : OwnV w W p a.vs) (hq : OwnV w W q b.vs) (h7 : ComAt W o7 cZ vZ) (h8 : ComAt W o8 cZ vZ) (hl : w.heap.size + 3 ≤ o7) (hne : o7 ≠ o8)
    (k : Keep (fun x => x = o7) W W') : AdIn w W' a b u v y ∧ OwnV w W' p a.vs ∧ OwnV w W' q b.vs ∧ ComAt W' o8 cZ vZ :=
  ⟨hA.keep k (fun x e => by omega), k.row hp (fun b hb e => own_ne hp h7 (by decide) (by rw [hb, e])), k.row hq (fun b hb e => own_ne hq h7 (by decide) (by rw [hb, e])), k.kb h8 (fun e => hne e.symm)⟩
theorem two_stores2 {w W W' : World} {a b : C} {u v : Value} {y : Vt} {o7 o8 : Nat} {p q : Value} (h : AdIn w W a b u v y ∧ OwnV w W p a.vs ∧ OwnV w W q b.vs ∧ ComAt W o8 cZ vZ) (g7 : ComAt W o7 a p) (hl : w.heap.size + 3 ≤ o8) (hne : o7 ≠ o8)
    (g : ComAt W' o8 b q) (k : Keep (fun x => x = o8) W W') : Adst w W' a b u v y o7 o8 p q W'.heap.size := by
  obtain ⟨hA, hp, hq, h8⟩ := h
  have hp' := k.row hp (fun b hb e => own_ne hp h8 (by decide) (by rw [hb, e]))
  have hq' := k.row hq (fun b hb e => own_ne hq h8 (by decide) (by rw [hb, e]))
  have g7' := k.kb g7 hne
  have hA' := hA.keep k (fun x e => by omega)
  exact ⟨hA', g7', g, hp', hq', hA'.size, Nat.le_refl _, kb_lt g7', kb_lt g, fun b hb => (hp'.lt b hb).2, fun b hb => (hq'.lt b hb).2⟩
/-- A commit told: where it lies. -/
structure Told (W : World) (M o : Nat) (d : C) (v : Value) : Prop where
  x : d.x.length = 32
  h : ComAt W o d v
  r : W.ownsRow M 29 2 v d.vs.length (vcs d.vs)
theorem Told.below {W W' : World} {M o : Nat} {d : C} {v : Value} (h : Told W M o d v) (k : Below W.heap.size W W') : Told W' M o d v := ⟨h.x, kb_below k h.h, (Keep.of_below (S := fun _ => False) k).row h.r (fun _ _ e => e)⟩
theorem Told.keep {W W' : World} {M M' o : Nat} {d : C} {v s : Value} {n : Nat} {xs : List Value} (h : Told W M o d v) (hs : W.ownsRow M' 29 2 s n xs) (k : Keep (fun b => s.ownBlock = some b) W W') (hlt : ∀ b, s.ownBlock = some b → b < M) : Told W' M o d v :=
  ⟨h.x, k.kb h.h (fun e => own_ne hs h.h (by decide) e), k.row h.r (fun b hb e => by have := hlt b e; have := (h.r.lt b hb).1; omega)⟩

set_option maxRecDepth 100000 in
set_option maxHeartbeats 8000000 in
theorem CommitAdds_walk {w : World} {a b : C} {u v : Value} (y : Vt) (ha : Ci w a u) (hb : Ci w b v) :
    Calls Try.prog 3 #[.agg (ccs a u).toArray, .agg (ccs b v).toArray, vtV y] w fun e w' => e = .returned (.bool true) ∧ Below w.heap.size w w' := by
  have HU := Lib.hid ha
  have HV := Lib.hid hb
  have honu := ha.r.one
  have honv := hb.r.one
  clear ha hb
  go_enter Try.func3, Try.ntmps3
  go_upto_region 1 with fail
  refine wp_world fun wA hwA => ?_
  have HA := Lib.hid (show AdIn w wA a b u v y by rw [hwA]; exact ⟨kb_alloc (kb_alloc (kb_new rfl _) _) _, kb_alloc (kb_new (by simp) _) _, kb_new (by simp) _, bl_alloc (bl_alloc (bl_alloc (Below.refl _ _) _) _) _⟩)
  clear hwA
  go_wp2_with (with_reducible refine wpList_load_cw _ rfl (by kernel_rfl) _ rfl HA.out.e0 HU.out.x ?_)
  refine (long_any' HU.out.x (HU.out.below HA.out.b).r).mono ?_
  rintro e w1 ⟨rfl, b1⟩
  have HA := Lib.hid (HA.out.below b1)
  clear b1
  by_cases hla : 70 < a.vs.length
  · rw [decide_eq_true hla]
    clear hla
    go_wp2_with fail
    refine (awake_yes _).mono ?_
    rintro e w2 ⟨rfl, b2⟩
    have HB := Lib.hid (bl_then HA.out.b b2)
    clear b2
    go_wp2_with fail
    go_ret
    exact ⟨rfl, HB.out⟩
  · rw [decide_eq_false hla]
    go_wp2_with (with_reducible refine wpList_load_cw _ rfl (by kernel_rfl) _ rfl HA.out.e1 HV.out.x ?_)
    refine (long_any' HV.out.x (HV.out.below HA.out.b).r).mono ?_
    rintro e w2 ⟨rfl, b2⟩
    have HA := Lib.hid (HA.out.below b2)
    clear b2
    by_cases hlb : 70 < b.vs.length
    · rw [decide_eq_true hlb]
      clear hlb
      go_wp2_with fail
      refine (awake_yes _).mono ?_
      rintro e w3 ⟨rfl, b3⟩
      have HB := Lib.hid (bl_then HA.out.b b3)
      clear b3
      go_wp2_with fail
      go_ret
      exact ⟨rfl, HB.out⟩
    · rw [decide_eq_false hlb]
      go_upto_region 3 with fail
      go_cut [7, 8] from 25 to 28 (fun s7 s8 wx => ∃ (o7 o8 : Nat) (p q : Value), s7 = .pointer (some ⟨o7, 0, none⟩) ∧ s8 = .pointer (some ⟨o8, 0, none⟩) ∧ Hid (Adst w wx a b u v y o7 o8 p q wx.heap.size))
      case first =>
        have HA := Lib.hid (HA.out.below (bl_drew (Below.refl _ _)))
        refine wp_region_held_drew (S := (fun W : World => W.rangeAt w.heap.size 0 (ccs a u) ∧ W.rangeAt (w.heap.size + 1) 0 (ccs b v))) (by kernel_rfl) ⟨range_of_kb HA.out.e0, range_of_kb HA.out.e1⟩ (fun hHeld => ?_)
        generalize w2.drew = w3 at *
        refine wpAnyH_take (i := 0) (oi := { dst := some 25, op := _, type := _, pos := _, after := _, guard := _ }) (v := _) rfl (by kernel_rfl) (by kernel_rfl) (by kernel_rfl) (fun _ _ _ h => h) (yieldsIf_load_mid (by rfl) 26 _ rfl w.heap.size 0 rfl (ccs a u) _ (fun _ h => h.1) Try.underlying26 rfl (sizeC.trans (ccs_lenA HU.out.x).symm)) hHeld ?_
        try simp only [Act.put, List.setIfInBounds_toArray, List.set_cons_zero, List.set_cons_succ]
        refine wpAnyH_take (i := 2) (oi := { dst := some 27, op := _, type := _, pos := _, after := _, guard := _ }) (v := _) rfl (by kernel_rfl) (by kernel_rfl) (by kernel_rfl) (fun _ _ _ h => h) (yieldsIf_load_mid (by rfl) 26 _ rfl (w.heap.size + 1) 0 rfl (ccs b v) _ (fun _ h => h.2) Try.underlying26 rfl (sizeC.trans (ccs_lenA HV.out.x).symm)) hHeld ?_
        try simp only [Act.put, List.setIfInBounds_toArray, List.set_cons_zero, List.set_cons_succ]
        refine wpAnyH_ready (rs := [1, 4, 5]) (by kernel_rfl) (by simp) (AllReadyH.cons (o := _) rfl (fun K hK => ?_) (AllReadyH.cons (o := _) rfl (fun K hK => ?_) (AllReadyH.cons (o := _) rfl (fun K hK => ?_) AllReadyH.nil)))
        · go_simp
          refine (CopyCommit_any HU.out.x (HU.out.below HA.out.b).r (by omega)).mono ?_
          rintro e w4 ⟨p7, rfl, n4⟩
          have HR7 := Lib.hid (show OwnV w w4 p7 a.vs from owns_mono n4.1 HA.out.b.size)
          have HA := Lib.hid (HA.out.below n4.2)
          refine hK.out _ _ ⟨range_of_kb HA.out.e0, range_of_kb HA.out.e1⟩ (fun hHeld => ?_)
          clear hK K n4
          refine wpAnyH_ready (rs := [3, 4, 5]) (by kernel_rfl) (by simp) (AllReadyH.cons (o := _) rfl (fun K hK => ?_) (AllReadyH.cons (o := _) rfl (fun K hK => ?_) (AllReadyH.cons (o := _) rfl (fun K hK => ?_) AllReadyH.nil)))
          · go_simp
            refine (CopyCommit_any HV.out.x (HV.out.below HA.out.b).r (by omega)).mono ?_
            rintro e w5 ⟨p8, rfl, n5⟩
            have HR8 := Lib.hid (show OwnV w w5 p8 b.vs from owns_mono n5.1 HA.out.b.size)
            have HR7 := Lib.hid (OwnV.below HR7.out n5.2)
            have HA := Lib.hid (HA.out.below n5.2)
            refine hK.out _ _ ⟨range_of_kb HA.out.e0, range_of_kb HA.out.e1⟩ (fun hHeld => ?_)
            clear hK K n5
            refine wpAnyH_ready (rs := [4, 5]) (by kernel_rfl) (by simp) (AllReadyH.cons (o := _) rfl (fun K hK => ?_) (AllReadyH.cons (o := _) rfl (fun K hK => ?_) AllReadyH.nil))
            · go_simp
              have hl7 := HA.out.size
              try simp only [World.size_alloc] at *
              have HR7 := Lib.hid (OwnV.below HR7.out (bl_alloc (Below.refl _ (w5)) (.cells (ccs cZ vZ).toArray 26)))
              have HR8 := Lib.hid (OwnV.below HR8.out (bl_alloc (Below.refl _ (w5)) (.cells (ccs cZ vZ).toArray 26)))
              have HA := Lib.hid (HA.out.below (bl_alloc (Below.refl _ (w5)) (.cells (ccs cZ vZ).toArray 26)))
              have HO7 := Lib.hid (show ComAt ((w5).alloc (.cells (ccs cZ vZ).toArray 26)) (w5.heap.size) cZ vZ from kb_new (by simp) _)
              refine hK.out _ _ ⟨range_of_kb HA.out.e0, range_of_kb HA.out.e1⟩ (fun hHeld => ?_)
              clear hK K
              refine wpAnyH_ready (rs := [5]) (by kernel_rfl) (by simp) (AllReadyH.cons (o := _) rfl (fun K hK => ?_) AllReadyH.nil)
              go_simp
              have hl8 := HA.out.size
              have hlt78 := kb_lt HO7.out
              try simp only [World.size_alloc] at *
              have HR7 := Lib.hid (OwnV.below HR7.out (bl_alloc (Below.refl _ ((w5).alloc (.cells (ccs cZ vZ).toArray 26))) (.cells (ccs cZ vZ).toArray 26)))
              have HR8 := Lib.hid (OwnV.below HR8.out (bl_alloc (Below.refl _ ((w5).alloc (.cells (ccs cZ vZ).toArray 26))) (.cells (ccs cZ vZ).toArray 26)))
              have HO7 := Lib.hid (kb_below (bl_alloc (Below.refl _ ((w5).alloc (.cells (ccs cZ vZ).toArray 26))) (.cells (ccs cZ vZ).toArray 26)) HO7.out)
              have HA := Lib.hid (HA.out.below (bl_alloc (Below.refl _ ((w5).alloc (.cells (ccs cZ vZ).toArray 26))) (.cells (ccs cZ vZ).toArray 26)))
              have HO8 := Lib.hid (show ComAt (((w5).alloc (.cells (ccs cZ vZ).toArray 26)).alloc (.cells (ccs cZ vZ).toArray 26)) (w5.heap.size + 1) cZ vZ from kb_new (by simp) _)
              refine hK.out _ _ ⟨range_of_kb HA.out.e0, range_of_kb HA.out.e1⟩ (fun hHeld => ?_)
              clear hK K
              have hne : w5.heap.size ≠ w5.heap.size + 1 := by omega
              obtain ⟨A7, c7, rfl⟩ := owns_slice0 HR7.out
              obtain ⟨A8, c8, rfl⟩ := owns_slice0 HR8.out
              refine wpAnyH_ready (rs := [6]) (by kernel_rfl) (by simp) (AllReadyH.cons (o := _) rfl (fun K hK => ?_) AllReadyH.nil)
              refine step_store_c rfl _ _ rfl _ rfl rfl HO7.out zArr HU.out.x rfl ?_
              intro w20 g20 k20
              have HB := Lib.hid (two_stores1 HA.out HR7.out HR8.out HO7.out HO8.out (by omega) hne k20)
              refine hK.out _ _ ⟨range_of_kb HB.out.1.e0, range_of_kb HB.out.1.e1⟩ (fun hHeld => ?_)
              clear hK K k20
              refine wpAnyH_ready (rs := [7]) (by kernel_rfl) (by simp) (AllReadyH.cons (o := _) rfl (fun K hK => ?_) AllReadyH.nil)
              refine step_store_c rfl _ _ rfl _ rfl rfl HB.out.2.2.2 zArr HV.out.x rfl ?_
              intro w21 g21 k21
              have HC := Lib.hid (two_stores2 HB.out g20 (by omega) hne g21 k21)
              refine hK.out _ _ ⟨range_of_kb HC.out.ai.e0, range_of_kb HC.out.ai.e1⟩ (fun hHeld => ?_)
              clear hK K g20 g21 k21
              refine wpAnyH_done (by kernel_rfl) ?_ _
              clear hHeld
              go_wp2_with fail
              go_meet
              case rel => exact ⟨_, _, _, _, rfl, rfl, HC⟩
            · go_simp
              have hl8 := HA.out.size
              try simp only [World.size_alloc] at *
              have HR7 := Lib.hid (OwnV.below HR7.out (bl_alloc (Below.refl _ (w5)) (.cells (ccs cZ vZ).toArray 26)))
              have HR8 := Lib.hid (OwnV.below HR8.out (bl_alloc (Below.refl _ (w5)) (.cells (ccs cZ vZ).toArray 26)))
              have HA := Lib.hid (HA.out.below (bl_alloc (Below.refl _ (w5)) (.cells (ccs cZ vZ).toArray 26)))
              have HO8 := Lib.hid (show ComAt ((w5).alloc (.cells (ccs cZ vZ).toArray 26)) (w5.heap.size) cZ vZ from kb_new (by simp) _)
              refine hK.out _ _ ⟨range_of_kb HA.out.e0, range_of_kb HA.out.e1⟩ (fun hHeld => ?_)
              clear hK K
              refine wpAnyH_ready (rs := [4]) (by kernel_rfl) (by simp) (AllReadyH.cons (o := _) rfl (fun K hK => ?_) AllReadyH.nil)
              go_simp
              have hl7 := HA.out.size
              have hlt87 := kb_lt HO8.out
              try simp only [World.size_alloc] at *
              have HR7 := Lib.hid (OwnV.below HR7.out (bl_alloc (Below.refl _ ((w5).alloc (.cells (ccs cZ vZ).toArray 26))) (.cells (ccs cZ vZ).toArray 26)))
              have HR8 := Lib.hid (OwnV.below HR8.out (bl_alloc (Below.refl _ ((w5).alloc (.cells (ccs cZ vZ).toArray 26))) (.cells (ccs cZ vZ).toArray 26)))
              have HO8 := Lib.hid (kb_below (bl_alloc (Below.refl _ ((w5).alloc (.cells (ccs cZ vZ).toArray 26))) (.cells (ccs cZ vZ).toArray 26)) HO8.out)
              have HA := Lib.hid (HA.out.below (bl_alloc (Below.refl _ ((w5).alloc (.cells (ccs cZ vZ).toArray 26))) (.cells (ccs cZ vZ).toArray 26)))
              have HO7 := Lib.hid (show ComAt (((w5).alloc (.cells (ccs cZ vZ).toArray 26)).alloc (.cells (ccs cZ vZ).toArray 26)) (w5.heap.size + 1) cZ vZ from kb_new (by simp) _)
              refine hK.out _ _ ⟨range_of_kb HA.out.e0, range_of_kb HA.out.e1⟩ (fun hHeld => ?_)
              clear hK K
              have hne : w5.heap.size + 1 ≠ w5.heap.size := by omega
              obtain ⟨A7, c7, rfl⟩ := owns_slice0 HR7.out
              obtain ⟨A8, c8, rfl⟩ := owns_slice0 HR8.out
              refine wpAnyH_ready (rs := [6]) (by kernel_rfl) (by simp) (AllReadyH.cons (o := _) rfl (fun K hK => ?_) AllReadyH.nil)
              refine step_store_c rfl _ _ rfl _ rfl rfl HO7.out zArr HU.out.x rfl ?_
              intro w20 g20 k20
              have HB := Lib.hid (two_stores1 HA.out HR7.out HR8.out HO7.out HO8.out (by omega) hne k20)
              refine hK.out _ _ ⟨range_of_kb HB.out.1.e0, range_of_kb HB.out.1.e1⟩ (fun hHeld => ?_)
              clear hK K k20
              refine wpAnyH_ready (rs := [7]) (by kernel_rfl) (by simp) (AllReadyH.cons (o := _) rfl (fun K hK => ?_) AllReadyH.nil)
              refine step_store_c rfl _ _ rfl _ rfl rfl HB.out.2.2.2 zArr HV.out.x rfl ?_
              intro w21 g21 k21
              have HC := Lib.hid (two_stores2 HB.out g20 (by omega) hne g21 k21)
              refine hK.out _ _ ⟨range_of_kb HC.out.ai.e0, range_of_kb HC.out.ai.e1⟩ (fun hHeld => ?_)
              clear hK K g20 g21 k21
              refine wpAnyH_done (by kernel_rfl) ?_ _
              clear hHeld
              go_wp2_with fail
              go_meet
              case rel => exact ⟨_, _, _, _, rfl, rfl, HC⟩
          · go_simp
            have hl7 := HA.out.size
            try simp only [World.size_alloc] at *
            have HR7 := Lib.hid (OwnV.below HR7.out (bl_alloc (Below.refl _ (w4)) (.cells (ccs cZ vZ).toArray 26)))
            have HA := Lib.hid (HA.out.below (bl_alloc (Below.refl _ (w4)) (.cells (ccs cZ vZ).toArray 26)))
            have HO7 := Lib.hid (show ComAt ((w4).alloc (.cells (ccs cZ vZ).toArray 26)) (w4.heap.size) cZ vZ from kb_new (by simp) _)
            refine hK.out _ _ ⟨range_of_kb HA.out.e0, range_of_kb HA.out.e1⟩ (fun hHeld => ?_)
            clear hK K
            refine wpAnyH_ready (rs := [3, 5]) (by kernel_rfl) (by simp) (AllReadyH.cons (o := _) rfl (fun K hK => ?_) (AllReadyH.cons (o := _) rfl (fun K hK => ?_) AllReadyH.nil))
            · go_simp
              refine (CopyCommit_any HV.out.x (HV.out.below HA.out.b).r (by omega)).mono ?_
              rintro e w5 ⟨p8, rfl, n5⟩
              have HR8 := Lib.hid (show OwnV w w5 p8 b.vs from owns_mono n5.1 HA.out.b.size)
              have HR7 := Lib.hid (OwnV.below HR7.out n5.2)
              have HO7 := Lib.hid (kb_below n5.2 HO7.out)
              have HA := Lib.hid (HA.out.below n5.2)
              refine hK.out _ _ ⟨range_of_kb HA.out.e0, range_of_kb HA.out.e1⟩ (fun hHeld => ?_)
              clear hK K n5
              refine wpAnyH_ready (rs := [5]) (by kernel_rfl) (by simp) (AllReadyH.cons (o := _) rfl (fun K hK => ?_) AllReadyH.nil)
              go_simp
              have hl8 := HA.out.size
              have hlt78 := kb_lt HO7.out
              try simp only [World.size_alloc] at *
              have HR7 := Lib.hid (OwnV.below HR7.out (bl_alloc (Below.refl _ (w5)) (.cells (ccs cZ vZ).toArray 26)))
              have HR8 := Lib.hid (OwnV.below HR8.out (bl_alloc (Below.refl _ (w5)) (.cells (ccs cZ vZ).toArray 26)))
              have HO7 := Lib.hid (kb_below (bl_alloc (Below.refl _ (w5)) (.cells (ccs cZ vZ).toArray 26)) HO7.out)
              have HA := Lib.hid (HA.out.below (bl_alloc (Below.refl _ (w5)) (.cells (ccs cZ vZ).toArray 26)))
              have HO8 := Lib.hid (show ComAt ((w5).alloc (.cells (ccs cZ vZ).toArray 26)) (w5.heap.size) cZ vZ from kb_new (by simp) _)
              refine hK.out _ _ ⟨range_of_kb HA.out.e0, range_of_kb HA.out.e1⟩ (fun hHeld => ?_)
              clear hK K
              have hne : w4.heap.size ≠ w5.heap.size := by omega
              obtain ⟨A7, c7, rfl⟩ := owns_slice0 HR7.out
              obtain ⟨A8, c8, rfl⟩ := owns_slice0 HR8.out
              refine wpAnyH_ready (rs := [6]) (by kernel_rfl) (by simp) (AllReadyH.cons (o := _) rfl (fun K hK => ?_) AllReadyH.nil)
              refine step_store_c rfl _ _ rfl _ rfl rfl HO7.out zArr HU.out.x rfl ?_
              intro w20 g20 k20
              have HB := Lib.hid (two_stores1 HA.out HR7.out HR8.out HO7.out HO8.out (by omega) hne k20)
              refine hK.out _ _ ⟨range_of_kb HB.out.1.e0, range_of_kb HB.out.1.e1⟩ (fun hHeld => ?_)
              clear hK K k20
              refine wpAnyH_ready (rs := [7]) (by kernel_rfl) (by simp) (AllReadyH.cons (o := _) rfl (fun K hK => ?_) AllReadyH.nil)
              refine step_store_c rfl _ _ rfl _ rfl rfl HB.out.2.2.2 zArr HV.out.x rfl ?_
              intro w21 g21 k21
              have HC := Lib.hid (two_stores2 HB.out g20 (by omega) hne g21 k21)
              refine hK.out _ _ ⟨range_of_kb HC.out.ai.e0, range_of_kb HC.out.ai.e1⟩ (fun hHeld => ?_)
              clear hK K g20 g21 k21
              refine wpAnyH_done (by kernel_rfl) ?_ _
              clear hHeld
              go_wp2_with fail
              go_meet
              case rel => exact ⟨_, _, _, _, rfl, rfl, HC⟩
            · go_simp
              have hl8 := HA.out.size
              have hlt78 := kb_lt HO7.out
              try simp only [World.size_alloc] at *
              have HR7 := Lib.hid (OwnV.below HR7.out (bl_alloc (Below.refl _ ((w4).alloc (.cells (ccs cZ vZ).toArray 26))) (.cells (ccs cZ vZ).toArray 26)))
              have HO7 := Lib.hid (kb_below (bl_alloc (Below.refl _ ((w4).alloc (.cells (ccs cZ vZ).toArray 26))) (.cells (ccs cZ vZ).toArray 26)) HO7.out)
              have HA := Lib.hid (HA.out.below (bl_alloc (Below.refl _ ((w4).alloc (.cells (ccs cZ vZ).toArray 26))) (.cells (ccs cZ vZ).toArray 26)))
              have HO8 := Lib.hid (show ComAt (((w4).alloc (.cells (ccs cZ vZ).toArray 26)).alloc (.cells (ccs cZ vZ).toArray 26)) (w4.heap.size + 1) cZ vZ from kb_new (by simp) _)
              refine hK.out _ _ ⟨range_of_kb HA.out.e0, range_of_kb HA.out.e1⟩ (fun hHeld => ?_)
              clear hK K
              refine wpAnyH_ready (rs := [3]) (by kernel_rfl) (by simp) (AllReadyH.cons (o := _) rfl (fun K hK => ?_) AllReadyH.nil)
              go_simp
              refine (CopyCommit_any HV.out.x (HV.out.below HA.out.b).r (by omega)).mono ?_
              rintro e w5 ⟨p8, rfl, n5⟩
              have HR8 := Lib.hid (show OwnV w w5 p8 b.vs from owns_mono n5.1 HA.out.b.size)
              have HR7 := Lib.hid (OwnV.below HR7.out n5.2)
              have HO7 := Lib.hid (kb_below n5.2 HO7.out)
              have HO8 := Lib.hid (kb_below n5.2 HO8.out)
              have HA := Lib.hid (HA.out.below n5.2)
              refine hK.out _ _ ⟨range_of_kb HA.out.e0, range_of_kb HA.out.e1⟩ (fun hHeld => ?_)
              clear hK K n5
              have hne : w4.heap.size ≠ w4.heap.size + 1 := by omega
              obtain ⟨A7, c7, rfl⟩ := owns_slice0 HR7.out
              obtain ⟨A8, c8, rfl⟩ := owns_slice0 HR8.out
              refine wpAnyH_ready (rs := [6]) (by kernel_rfl) (by simp) (AllReadyH.cons (o := _) rfl (fun K hK => ?_) AllReadyH.nil)
              refine step_store_c rfl _ _ rfl _ rfl rfl HO7.out zArr HU.out.x rfl ?_
              intro w20 g20 k20
              have HB := Lib.hid (two_stores1 HA.out HR7.out HR8.out HO7.out HO8.out (by omega) hne k20)
              refine hK.out _ _ ⟨range_of_kb HB.out.1.e0, range_of_kb HB.out.1.e1⟩ (fun hHeld => ?_)
              clear hK K k20
              refine wpAnyH_ready (rs := [7]) (by kernel_rfl) (by simp) (AllReadyH.cons (o := _) rfl (fun K hK => ?_) AllReadyH.nil)
              refine step_store_c rfl _ _ rfl _ rfl rfl HB.out.2.2.2 zArr HV.out.x rfl ?_
              intro w21 g21 k21
              have HC := Lib.hid (two_stores2 HB.out g20 (by omega) hne g21 k21)
              refine hK.out _ _ ⟨range_of_kb HC.out.ai.e0, range_of_kb HC.out.ai.e1⟩ (fun hHeld => ?_)
              clear hK K g20 g21 k21
              refine wpAnyH_done (by kernel_rfl) ?_ _
              clear hHeld
              go_wp2_with fail
              go_meet
              case rel => exact ⟨_, _, _, _, rfl, rfl, HC⟩
          · go_simp
            have hl8 := HA.out.size
            try simp only [World.size_alloc] at *
            have HR7 := Lib.hid (OwnV.below HR7.out (bl_alloc (Below.refl _ (w4)) (.cells (ccs cZ vZ).toArray 26)))
            have HA := Lib.hid (HA.out.below (bl_alloc (Below.refl _ (w4)) (.cells (ccs cZ vZ).toArray 26)))
            have HO8 := Lib.hid (show ComAt ((w4).alloc (.cells (ccs cZ vZ).toArray 26)) (w4.heap.size) cZ vZ from kb_new (by simp) _)
            refine hK.out _ _ ⟨range_of_kb HA.out.e0, range_of_kb HA.out.e1⟩ (fun hHeld => ?_)
            clear hK K
            refine wpAnyH_ready (rs := [3, 4]) (by kernel_rfl) (by simp) (AllReadyH.cons (o := _) rfl (fun K hK => ?_) (AllReadyH.cons (o := _) rfl (fun K hK => ?_) AllReadyH.nil))
            · go_simp
              refine (CopyCommit_any HV.out.x (HV.out.below HA.out.b).r (by omega)).mono ?_
              rintro e w5 ⟨p8, rfl, n5⟩
              have HR8 := Lib.hid (show OwnV w w5 p8 b.vs from owns_mono n5.1 HA.out.b.size)
              have HR7 := Lib.hid (OwnV.below HR7.out n5.2)
              have HO8 := Lib.hid (kb_below n5.2 HO8.out)
              have HA := Lib.hid (HA.out.below n5.2)
              refine hK.out _ _ ⟨range_of_kb HA.out.e0, range_of_kb HA.out.e1⟩ (fun hHeld => ?_)
              clear hK K n5
              refine wpAnyH_ready (rs := [4]) (by kernel_rfl) (by simp) (AllReadyH.cons (o := _) rfl (fun K hK => ?_) AllReadyH.nil)
              go_simp
              have hl7 := HA.out.size
              have hlt87 := kb_lt HO8.out
              try simp only [World.size_alloc] at *
              have HR7 := Lib.hid (OwnV.below HR7.out (bl_alloc (Below.refl _ (w5)) (.cells (ccs cZ vZ).toArray 26)))
              have HR8 := Lib.hid (OwnV.below HR8.out (bl_alloc (Below.refl _ (w5)) (.cells (ccs cZ vZ).toArray 26)))
              have HO8 := Lib.hid (kb_below (bl_alloc (Below.refl _ (w5)) (.cells (ccs cZ vZ).toArray 26)) HO8.out)
              have HA := Lib.hid (HA.out.below (bl_alloc (Below.refl _ (w5)) (.cells (ccs cZ vZ).toArray 26)))
              have HO7 := Lib.hid (show ComAt ((w5).alloc (.cells (ccs cZ vZ).toArray 26)) (w5.heap.size) cZ vZ from kb_new (by simp) _)
              refine hK.out _ _ ⟨range_of_kb HA.out.e0, range_of_kb HA.out.e1⟩ (fun hHeld => ?_)
              clear hK K
              have hne : w5.heap.size ≠ w4.heap.size := by omega
              obtain ⟨A7, c7, rfl⟩ := owns_slice0 HR7.out
              obtain ⟨A8, c8, rfl⟩ := owns_slice0 HR8.out
              refine wpAnyH_ready (rs := [6]) (by kernel_rfl) (by simp) (AllReadyH.cons (o := _) rfl (fun K hK => ?_) AllReadyH.nil)
              refine step_store_c rfl _ _ rfl _ rfl rfl HO7.out zArr HU.out.x rfl ?_
              intro w20 g20 k20
              have HB := Lib.hid (two_stores1 HA.out HR7.out HR8.out HO7.out HO8.out (by omega) hne k20)
              refine hK.out _ _ ⟨range_of_kb HB.out.1.e0, range_of_kb HB.out.1.e1⟩ (fun hHeld => ?_)
              clear hK K k20
              refine wpAnyH_ready (rs := [7]) (by kernel_rfl) (by simp) (AllReadyH.cons (o := _) rfl (fun K hK => ?_) AllReadyH.nil)
              refine step_store_c rfl _ _ rfl _ rfl rfl HB.out.2.2.2 zArr HV.out.x rfl ?_
              intro w21 g21 k21
              have HC := Lib.hid (two_stores2 HB.out g20 (by omega) hne g21 k21)
              refine hK.out _ _ ⟨range_of_kb HC.out.ai.e0, range_of_kb HC.out.ai.e1⟩ (fun hHeld => ?_)
              clear hK K g20 g21 k21
              refine wpAnyH_done (by kernel_rfl) ?_ _
              clear hHeld
              go_wp2_with fail
              go_meet
              case rel => exact ⟨_, _, _, _, rfl, rfl, HC⟩
            · go_simp
              have hl7 := HA.out.size
              have hlt87 := kb_lt HO8.out
              try simp only [World.size_alloc] at *
              have HR7 := Lib.hid (OwnV.below HR7.out (bl_alloc (Below.refl _ ((w4).alloc (.cells (ccs cZ vZ).toArray 26))) (.cells (ccs cZ vZ).toArray 26)))
              have HO8 := Lib.hid (kb_below (bl_alloc (Below.refl _ ((w4).alloc (.cells (ccs cZ vZ).toArray 26))) (.cells (ccs cZ vZ).toArray 26)) HO8.out)
              have HA := Lib.hid (HA.out.below (bl_alloc (Below.refl _ ((w4).alloc (.cells (ccs cZ vZ).toArray 26))) (.cells (ccs cZ vZ).toArray 26)))
              have HO7 := Lib.hid (show ComAt (((w4).alloc (.cells (ccs cZ vZ).toArray 26)).alloc (.cells (ccs cZ vZ).toArray 26)) (w4.heap.size + 1) cZ vZ from kb_new (by simp) _)
              refine hK.out _ _ ⟨range_of_kb HA.out.e0, range_of_kb HA.out.e1⟩ (fun hHeld => ?_)
              clear hK K
              refine wpAnyH_ready (rs := [3]) (by kernel_rfl) (by simp) (AllReadyH.cons (o := _) rfl (fun K hK => ?_) AllReadyH.nil)
              go_simp
              refine (CopyCommit_any HV.out.x (HV.out.below HA.out.b).r (by omega)).mono ?_
              rintro e w5 ⟨p8, rfl, n5⟩
              have HR8 := Lib.hid (show OwnV w w5 p8 b.vs from owns_mono n5.1 HA.out.b.size)
              have HR7 := Lib.hid (OwnV.below HR7.out n5.2)
              have HO8 := Lib.hid (kb_below n5.2 HO8.out)
              have HO7 := Lib.hid (kb_below n5.2 HO7.out)
              have HA := Lib.hid (HA.out.below n5.2)
              refine hK.out _ _ ⟨range_of_kb HA.out.e0, range_of_kb HA.out.e1⟩ (fun hHeld => ?_)
              clear hK K n5
              have hne : w4.heap.size + 1 ≠ w4.heap.size := by omega
              obtain ⟨A7, c7, rfl⟩ := owns_slice0 HR7.out
              obtain ⟨A8, c8, rfl⟩ := owns_slice0 HR8.out
              refine wpAnyH_ready (rs := [6]) (by kernel_rfl) (by simp) (AllReadyH.cons (o := _) rfl (fun K hK => ?_) AllReadyH.nil)
              refine step_store_c rfl _ _ rfl _ rfl rfl HO7.out zArr HU.out.x rfl ?_
              intro w20 g20 k20
              have HB := Lib.hid (two_stores1 HA.out HR7.out HR8.out HO7.out HO8.out (by omega) hne k20)
              refine hK.out _ _ ⟨range_of_kb HB.out.1.e0, range_of_kb HB.out.1.e1⟩ (fun hHeld => ?_)
              clear hK K k20
              refine wpAnyH_ready (rs := [7]) (by kernel_rfl) (by simp) (AllReadyH.cons (o := _) rfl (fun K hK => ?_) AllReadyH.nil)
              refine step_store_c rfl _ _ rfl _ rfl rfl HB.out.2.2.2 zArr HV.out.x rfl ?_
              intro w21 g21 k21
              have HC := Lib.hid (two_stores2 HB.out g20 (by omega) hne g21 k21)
              refine hK.out _ _ ⟨range_of_kb HC.out.ai.e0, range_of_kb HC.out.ai.e1⟩ (fun hHeld => ?_)
              clear hK K g20 g21 k21
              refine wpAnyH_done (by kernel_rfl) ?_ _
              clear hHeld
              go_wp2_with fail
              go_meet
              case rel => exact ⟨_, _, _, _, rfl, rfl, HC⟩
        · go_simp
          have hl7 := HA.out.size
          try simp only [World.size_alloc] at *
          have HA := Lib.hid (HA.out.below (bl_alloc (Below.refl _ (w3)) (.cells (ccs cZ vZ).toArray 26)))
          have HO7 := Lib.hid (show ComAt ((w3).alloc (.cells (ccs cZ vZ).toArray 26)) (w3.heap.size) cZ vZ from kb_new (by simp) _)
          refine hK.out _ _ ⟨range_of_kb HA.out.e0, range_of_kb HA.out.e1⟩ (fun hHeld => ?_)
          clear hK K
          refine wpAnyH_ready (rs := [1, 5]) (by kernel_rfl) (by simp) (AllReadyH.cons (o := _) rfl (fun K hK => ?_) (AllReadyH.cons (o := _) rfl (fun K hK => ?_) AllReadyH.nil))
          · go_simp
            refine (CopyCommit_any HU.out.x (HU.out.below HA.out.b).r (by omega)).mono ?_
            rintro e w4 ⟨p7, rfl, n4⟩
            have HR7 := Lib.hid (show OwnV w w4 p7 a.vs from owns_mono n4.1 HA.out.b.size)
            have HO7 := Lib.hid (kb_below n4.2 HO7.out)
            have HA := Lib.hid (HA.out.below n4.2)
            refine hK.out _ _ ⟨range_of_kb HA.out.e0, range_of_kb HA.out.e1⟩ (fun hHeld => ?_)
            clear hK K n4
            refine wpAnyH_ready (rs := [3, 5]) (by kernel_rfl) (by simp) (AllReadyH.cons (o := _) rfl (fun K hK => ?_) (AllReadyH.cons (o := _) rfl (fun K hK => ?_) AllReadyH.nil))
            · go_simp
              refine (CopyCommit_any HV.out.x (HV.out.below HA.out.b).r (by omega)).mono ?_
              rintro e w5 ⟨p8, rfl, n5⟩
              have HR8 := Lib.hid (show OwnV w w5 p8 b.vs from owns_mono n5.1 HA.out.b.size)
              have HR7 := Lib.hid (OwnV.below HR7.out n5.2)
              have HO7 := Lib.hid (kb_below n5.2 HO7.out)
              have HA := Lib.hid (HA.out.below n5.2)
              refine hK.out _ _ ⟨range_of_kb HA.out.e0, range_of_kb HA.out.e1⟩ (fun hHeld => ?_)
              clear hK K n5
              refine wpAnyH_ready (rs := [5]) (by kernel_rfl) (by simp) (AllReadyH.cons (o := _) rfl (fun K hK => ?_) AllReadyH.nil)
              go_simp
              have hl8 := HA.out.size
              have hlt78 := kb_lt HO7.out
              try simp only [World.size_alloc] at *
              have HR7 := Lib.hid (OwnV.below HR7.out (bl_alloc (Below.refl _ (w5)) (.cells (ccs cZ vZ).toArray 26)))
              have HR8 := Lib.hid (OwnV.below HR8.out (bl_alloc (Below.refl _ (w5)) (.cells (ccs cZ vZ).toArray 26)))
              have HO7 := Lib.hid (kb_below (bl_alloc (Below.refl _ (w5)) (.cells (ccs cZ vZ).toArray 26)) HO7.out)
              have HA := Lib.hid (HA.out.below (bl_alloc (Below.refl _ (w5)) (.cells (ccs cZ vZ).toArray 26)))
              have HO8 := Lib.hid (show ComAt ((w5).alloc (.cells (ccs cZ vZ).toArray 26)) (w5.heap.size) cZ vZ from kb_new (by simp) _)
              refine hK.out _ _ ⟨range_of_kb HA.out.e0, range_of_kb HA.out.e1⟩ (fun hHeld => ?_)
              clear hK K
              have hne : w3.heap.size ≠ w5.heap.size := by omega
              obtain ⟨A7, c7, rfl⟩ := owns_slice0 HR7.out
              obtain ⟨A8, c8, rfl⟩ := owns_slice0 HR8.out
              refine wpAnyH_ready (rs := [6]) (by kernel_rfl) (by simp) (AllReadyH.cons (o := _) rfl (fun K hK => ?_) AllReadyH.nil)
              refine step_store_c rfl _ _ rfl _ rfl rfl HO7.out zArr HU.out.x rfl ?_
              intro w20 g20 k20
              have HB := Lib.hid (two_stores1 HA.out HR7.out HR8.out HO7.out HO8.out (by omega) hne k20)
              refine hK.out _ _ ⟨range_of_kb HB.out.1.e0, range_of_kb HB.out.1.e1⟩ (fun hHeld => ?_)
              clear hK K k20
              refine wpAnyH_ready (rs := [7]) (by kernel_rfl) (by simp) (AllReadyH.cons (o := _) rfl (fun K hK => ?_) AllReadyH.nil)
              refine step_store_c rfl _ _ rfl _ rfl rfl HB.out.2.2.2 zArr HV.out.x rfl ?_
              intro w21 g21 k21
              have HC := Lib.hid (two_stores2 HB.out g20 (by omega) hne g21 k21)
              refine hK.out _ _ ⟨range_of_kb HC.out.ai.e0, range_of_kb HC.out.ai.e1⟩ (fun hHeld => ?_)
              clear hK K g20 g21 k21
              refine wpAnyH_done (by kernel_rfl) ?_ _
              clear hHeld
              go_wp2_with fail
              go_meet
              case rel => exact ⟨_, _, _, _, rfl, rfl, HC⟩
            · go_simp
              have hl8 := HA.out.size
              have hlt78 := kb_lt HO7.out
              try simp only [World.size_alloc] at *
              have HR7 := Lib.hid (OwnV.below HR7.out (bl_alloc (Below.refl _ (w4)) (.cells (ccs cZ vZ).toArray 26)))
              have HO7 := Lib.hid (kb_below (bl_alloc (Below.refl _ (w4)) (.cells (ccs cZ vZ).toArray 26)) HO7.out)
              have HA := Lib.hid (HA.out.below (bl_alloc (Below.refl _ (w4)) (.cells (ccs cZ vZ).toArray 26)))
              have HO8 := Lib.hid (show ComAt ((w4).alloc (.cells (ccs cZ vZ).toArray 26)) (w4.heap.size) cZ vZ from kb_new (by simp) _)
              refine hK.out _ _ ⟨range_of_kb HA.out.e0, range_of_kb HA.out.e1⟩ (fun hHeld => ?_)
              clear hK K
              refine wpAnyH_ready (rs := [3]) (by kernel_rfl) (by simp) (AllReadyH.cons (o := _) rfl (fun K hK => ?_) AllReadyH.nil)
              go_simp
              refine (CopyCommit_any HV.out.x (HV.out.below HA.out.b).r (by omega)).mono ?_
              rintro e w5 ⟨p8, rfl, n5⟩
              have HR8 := Lib.hid (show OwnV w w5 p8 b.vs from owns_mono n5.1 HA.out.b.size)
              have HR7 := Lib.hid (OwnV.below HR7.out n5.2)
              have HO7 := Lib.hid (kb_below n5.2 HO7.out)
              have HO8 := Lib.hid (kb_below n5.2 HO8.out)
              have HA := Lib.hid (HA.out.below n5.2)
              refine hK.out _ _ ⟨range_of_kb HA.out.e0, range_of_kb HA.out.e1⟩ (fun hHeld => ?_)
              clear hK K n5
              have hne : w3.heap.size ≠ w4.heap.size := by omega
              obtain ⟨A7, c7, rfl⟩ := owns_slice0 HR7.out
              obtain ⟨A8, c8, rfl⟩ := owns_slice0 HR8.out
              refine wpAnyH_ready (rs := [6]) (by kernel_rfl) (by simp) (AllReadyH.cons (o := _) rfl (fun K hK => ?_) AllReadyH.nil)
              refine step_store_c rfl _ _ rfl _ rfl rfl HO7.out zArr HU.out.x rfl ?_
              intro w20 g20 k20
              have HB := Lib.hid (two_stores1 HA.out HR7.out HR8.out HO7.out HO8.out (by omega) hne k20)
              refine hK.out _ _ ⟨range_of_kb HB.out.1.e0, range_of_kb HB.out.1.e1⟩ (fun hHeld => ?_)
              clear hK K k20
              refine wpAnyH_ready (rs := [7]) (by kernel_rfl) (by simp) (AllReadyH.cons (o := _) rfl (fun K hK => ?_) AllReadyH.nil)
              refine step_store_c rfl _ _ rfl _ rfl rfl HB.out.2.2.2 zArr HV.out.x rfl ?_
              intro w21 g21 k21
              have HC := Lib.hid (two_stores2 HB.out g20 (by omega) hne g21 k21)
              refine hK.out _ _ ⟨range_of_kb HC.out.ai.e0, range_of_kb HC.out.ai.e1⟩ (fun hHeld => ?_)
              clear hK K g20 g21 k21
              refine wpAnyH_done (by kernel_rfl) ?_ _
              clear hHeld
              go_wp2_with fail
              go_meet
              case rel => exact ⟨_, _, _, _, rfl, rfl, HC⟩
          · go_simp
            have hl8 := HA.out.size
            have hlt78 := kb_lt HO7.out
            try simp only [World.size_alloc] at *
            have HO7 := Lib.hid (kb_below (bl_alloc (Below.refl _ ((w3).alloc (.cells (ccs cZ vZ).toArray 26))) (.cells (ccs cZ vZ).toArray 26)) HO7.out)
            have HA := Lib.hid (HA.out.below (bl_alloc (Below.refl _ ((w3).alloc (.cells (ccs cZ vZ).toArray 26))) (.cells (ccs cZ vZ).toArray 26)))
            have HO8 := Lib.hid (show ComAt (((w3).alloc (.cells (ccs cZ vZ).toArray 26)).alloc (.cells (ccs cZ vZ).toArray 26)) (w3.heap.size + 1) cZ vZ from kb_new (by simp) _)
            refine hK.out _ _ ⟨range_of_kb HA.out.e0, range_of_kb HA.out.e1⟩ (fun hHeld => ?_)
            clear hK K
            refine wpAnyH_ready (rs := [1]) (by kernel_rfl) (by simp) (AllReadyH.cons (o := _) rfl (fun K hK => ?_) AllReadyH.nil)
            go_simp
            refine (CopyCommit_any HU.out.x (HU.out.below HA.out.b).r (by omega)).mono ?_
            rintro e w4 ⟨p7, rfl, n4⟩
            have HR7 := Lib.hid (show OwnV w w4 p7 a.vs from owns_mono n4.1 HA.out.b.size)
            have HO7 := Lib.hid (kb_below n4.2 HO7.out)
            have HO8 := Lib.hid (kb_below n4.2 HO8.out)
            have HA := Lib.hid (HA.out.below n4.2)
            refine hK.out _ _ ⟨range_of_kb HA.out.e0, range_of_kb HA.out.e1⟩ (fun hHeld => ?_)
            clear hK K n4
            refine wpAnyH_ready (rs := [3]) (by kernel_rfl) (by simp) (AllReadyH.cons (o := _) rfl (fun K hK => ?_) AllReadyH.nil)
            go_simp
            refine (CopyCommit_any HV.out.x (HV.out.below HA.out.b).r (by omega)).mono ?_
            rintro e w5 ⟨p8, rfl, n5⟩
            have HR8 := Lib.hid (show OwnV w w5 p8 b.vs from owns_mono n5.1 HA.out.b.size)
            have HR7 := Lib.hid (OwnV.below HR7.out n5.2)
            have HO7 := Lib.hid (kb_below n5.2 HO7.out)
            have HO8 := Lib.hid (kb_below n5.2 HO8.out)
            have HA := Lib.hid (HA.out.below n5.2)
            refine hK.out _ _ ⟨range_of_kb HA.out.e0, range_of_kb HA.out.e1⟩ (fun hHeld => ?_)
            clear hK K n5
            have hne : w3.heap.size ≠ w3.heap.size + 1 := by omega
            obtain ⟨A7, c7, rfl⟩ := owns_slice0 HR7.out
            obtain ⟨A8, c8, rfl⟩ := owns_slice0 HR8.out
            refine wpAnyH_ready (rs := [6]) (by kernel_rfl) (by simp) (AllReadyH.cons (o := _) rfl (fun K hK => ?_) AllReadyH.nil)
            refine step_store_c rfl _ _ rfl _ rfl rfl HO7.out zArr HU.out.x rfl ?_
            intro w20 g20 k20
            have HB := Lib.hid (two_stores1 HA.out HR7.out HR8.out HO7.out HO8.out (by omega) hne k20)
            refine hK.out _ _ ⟨range_of_kb HB.out.1.e0, range_of_kb HB.out.1.e1⟩ (fun hHeld => ?_)
            clear hK K k20
            refine wpAnyH_ready (rs := [7]) (by kernel_rfl) (by simp) (AllReadyH.cons (o := _) rfl (fun K hK => ?_) AllReadyH.nil)
            refine step_store_c rfl _ _ rfl _ rfl rfl HB.out.2.2.2 zArr HV.out.x rfl ?_
            intro w21 g21 k21
            have HC := Lib.hid (two_stores2 HB.out g20 (by omega) hne g21 k21)
            refine hK.out _ _ ⟨range_of_kb HC.out.ai.e0, range_of_kb HC.out.ai.e1⟩ (fun hHeld => ?_)
            clear hK K g20 g21 k21
            refine wpAnyH_done (by kernel_rfl) ?_ _
            clear hHeld
            go_wp2_with fail
            go_meet
            case rel => exact ⟨_, _, _, _, rfl, rfl, HC⟩
        · go_simp
          have hl8 := HA.out.size
          try simp only [World.size_alloc] at *
          have HA := Lib.hid (HA.out.below (bl_alloc (Below.refl _ (w3)) (.cells (ccs cZ vZ).toArray 26)))
          have HO8 := Lib.hid (show ComAt ((w3).alloc (.cells (ccs cZ vZ).toArray 26)) (w3.heap.size) cZ vZ from kb_new (by simp) _)
          refine hK.out _ _ ⟨range_of_kb HA.out.e0, range_of_kb HA.out.e1⟩ (fun hHeld => ?_)
          clear hK K
          refine wpAnyH_ready (rs := [1, 4]) (by kernel_rfl) (by simp) (AllReadyH.cons (o := _) rfl (fun K hK => ?_) (AllReadyH.cons (o := _) rfl (fun K hK => ?_) AllReadyH.nil))
          · go_simp
            refine (CopyCommit_any HU.out.x (HU.out.below HA.out.b).r (by omega)).mono ?_
            rintro e w4 ⟨p7, rfl, n4⟩
            have HR7 := Lib.hid (show OwnV w w4 p7 a.vs from owns_mono n4.1 HA.out.b.size)
            have HO8 := Lib.hid (kb_below n4.2 HO8.out)
            have HA := Lib.hid (HA.out.below n4.2)
            refine hK.out _ _ ⟨range_of_kb HA.out.e0, range_of_kb HA.out.e1⟩ (fun hHeld => ?_)
            clear hK K n4
            refine wpAnyH_ready (rs := [3, 4]) (by kernel_rfl) (by simp) (AllReadyH.cons (o := _) rfl (fun K hK => ?_) (AllReadyH.cons (o := _) rfl (fun K hK => ?_) AllReadyH.nil))
            · go_simp
              refine (CopyCommit_any HV.out.x (HV.out.below HA.out.b).r (by omega)).mono ?_
              rintro e w5 ⟨p8, rfl, n5⟩
              have HR8 := Lib.hid (show OwnV w w5 p8 b.vs from owns_mono n5.1 HA.out.b.size)
              have HR7 := Lib.hid (OwnV.below HR7.out n5.2)
              have HO8 := Lib.hid (kb_below n5.2 HO8.out)
              have HA := Lib.hid (HA.out.below n5.2)
              refine hK.out _ _ ⟨range_of_kb HA.out.e0, range_of_kb HA.out.e1⟩ (fun hHeld => ?_)
              clear hK K n5
              refine wpAnyH_ready (rs := [4]) (by kernel_rfl) (by simp) (AllReadyH.cons (o := _) rfl (fun K hK => ?_) AllReadyH.nil)
              go_simp
              have hl7 := HA.out.size
              have hlt87 := kb_lt HO8.out
              try simp only [World.size_alloc] at *
              have HR7 := Lib.hid (OwnV.below HR7.out (bl_alloc (Below.refl _ (w5)) (.cells (ccs cZ vZ).toArray 26)))
              have HR8 := Lib.hid (OwnV.below HR8.out (bl_alloc (Below.refl _ (w5)) (.cells (ccs cZ vZ).toArray 26)))
              have HO8 := Lib.hid (kb_below (bl_alloc (Below.refl _ (w5)) (.cells (ccs cZ vZ).toArray 26)) HO8.out)
              have HA := Lib.hid (HA.out.below (bl_alloc (Below.refl _ (w5)) (.cells (ccs cZ vZ).toArray 26)))
              have HO7 := Lib.hid (show ComAt ((w5).alloc (.cells (ccs cZ vZ).toArray 26)) (w5.heap.size) cZ vZ from kb_new (by simp) _)
              refine hK.out _ _ ⟨range_of_kb HA.out.e0, range_of_kb HA.out.e1⟩ (fun hHeld => ?_)
              clear hK K
              have hne : w5.heap.size ≠ w3.heap.size := by omega
              obtain ⟨A7, c7, rfl⟩ := owns_slice0 HR7.out
              obtain ⟨A8, c8, rfl⟩ := owns_slice0 HR8.out
              refine wpAnyH_ready (rs := [6]) (by kernel_rfl) (by simp) (AllReadyH.cons (o := _) rfl (fun K hK => ?_) AllReadyH.nil)
              refine step_store_c rfl _ _ rfl _ rfl rfl HO7.out zArr HU.out.x rfl ?_
              intro w20 g20 k20
              have HB := Lib.hid (two_stores1 HA.out HR7.out HR8.out HO7.out HO8.out (by omega) hne k20)
              refine hK.out _ _ ⟨range_of_kb HB.out.1.e0, range_of_kb HB.out.1.e1⟩ (fun hHeld => ?_)
              clear hK K k20
              refine wpAnyH_ready (rs := [7]) (by kernel_rfl) (by simp) (AllReadyH.cons (o := _) rfl (fun K hK => ?_) AllReadyH.nil)
              refine step_store_c rfl _ _ rfl _ rfl rfl HB.out.2.2.2 zArr HV.out.x rfl ?_
              intro w21 g21 k21
              have HC := Lib.hid (two_stores2 HB.out g20 (by omega) hne g21 k21)
              refine hK.out _ _ ⟨range_of_kb HC.out.ai.e0, range_of_kb HC.out.ai.e1⟩ (fun hHeld => ?_)
              clear hK K g20 g21 k21
              refine wpAnyH_done (by kernel_rfl) ?_ _
              clear hHeld
              go_wp2_with fail
              go_meet
              case rel => exact ⟨_, _, _, _, rfl, rfl, HC⟩
            · go_simp
              have hl7 := HA.out.size
              have hlt87 := kb_lt HO8.out
              try simp only [World.size_alloc] at *
              have HR7 := Lib.hid (OwnV.below HR7.out (bl_alloc (Below.refl _ (w4)) (.cells (ccs cZ vZ).toArray 26)))
              have HO8 := Lib.hid (kb_below (bl_alloc (Below.refl _ (w4)) (.cells (ccs cZ vZ).toArray 26)) HO8.out)
              have HA := Lib.hid (HA.out.below (bl_alloc (Below.refl _ (w4)) (.cells (ccs cZ vZ).toArray 26)))
              have HO7 := Lib.hid (show ComAt ((w4).alloc (.cells (ccs cZ vZ).toArray 26)) (w4.heap.size) cZ vZ from kb_new (by simp) _)
              refine hK.out _ _ ⟨range_of_kb HA.out.e0, range_of_kb HA.out.e1⟩ (fun hHeld => ?_)
              clear hK K
              refine wpAnyH_ready (rs := [3]) (by kernel_rfl) (by simp) (AllReadyH.cons (o := _) rfl (fun K hK => ?_) AllReadyH.nil)
              go_simp
              refine (CopyCommit_any HV.out.x (HV.out.below HA.out.b).r (by omega)).mono ?_
              rintro e w5 ⟨p8, rfl, n5⟩
              have HR8 := Lib.hid (show OwnV w w5 p8 b.vs from owns_mono n5.1 HA.out.b.size)
              have HR7 := Lib.hid (OwnV.below HR7.out n5.2)
              have HO8 := Lib.hid (kb_below n5.2 HO8.out)
              have HO7 := Lib.hid (kb_below n5.2 HO7.out)
              have HA := Lib.hid (HA.out.below n5.2)
              refine hK.out _ _ ⟨range_of_kb HA.out.e0, range_of_kb HA.out.e1⟩ (fun hHeld => ?_)
              clear hK K n5
              have hne : w4.heap.size ≠ w3.heap.size := by omega
              obtain ⟨A7, c7, rfl⟩ := owns_slice0 HR7.out
              obtain ⟨A8, c8, rfl⟩ := owns_slice0 HR8.out
              refine wpAnyH_ready (rs := [6]) (by kernel_rfl) (by simp) (AllReadyH.cons (o := _) rfl (fun K hK => ?_) AllReadyH.nil)
              refine step_store_c rfl _ _ rfl _ rfl rfl HO7.out zArr HU.out.x rfl ?_
              intro w20 g20 k20
              have HB := Lib.hid (two_stores1 HA.out HR7.out HR8.out HO7.out HO8.out (by omega) hne k20)
              refine hK.out _ _ ⟨range_of_kb HB.out.1.e0, range_of_kb HB.out.1.e1⟩ (fun hHeld => ?_)
              clear hK K k20
              refine wpAnyH_ready (rs := [7]) (by kernel_rfl) (by simp) (AllReadyH.cons (o := _) rfl (fun K hK => ?_) AllReadyH.nil)
              refine step_store_c rfl _ _ rfl _ rfl rfl HB.out.2.2.2 zArr HV.out.x rfl ?_
              intro w21 g21 k21
              have HC := Lib.hid (two_stores2 HB.out g20 (by omega) hne g21 k21)
              refine hK.out _ _ ⟨range_of_kb HC.out.ai.e0, range_of_kb HC.out.ai.e1⟩ (fun hHeld => ?_)
              clear hK K g20 g21 k21
              refine wpAnyH_done (by kernel_rfl) ?_ _
              clear hHeld
              go_wp2_with fail
              go_meet
              case rel => exact ⟨_, _, _, _, rfl, rfl, HC⟩
          · go_simp
            have hl7 := HA.out.size
            have hlt87 := kb_lt HO8.out
            try simp only [World.size_alloc] at *
            have HO8 := Lib.hid (kb_below (bl_alloc (Below.refl _ ((w3).alloc (.cells (ccs cZ vZ).toArray 26))) (.cells (ccs cZ vZ).toArray 26)) HO8.out)
            have HA := Lib.hid (HA.out.below (bl_alloc (Below.refl _ ((w3).alloc (.cells (ccs cZ vZ).toArray 26))) (.cells (ccs cZ vZ).toArray 26)))
            have HO7 := Lib.hid (show ComAt (((w3).alloc (.cells (ccs cZ vZ).toArray 26)).alloc (.cells (ccs cZ vZ).toArray 26)) (w3.heap.size + 1) cZ vZ from kb_new (by simp) _)
            refine hK.out _ _ ⟨range_of_kb HA.out.e0, range_of_kb HA.out.e1⟩ (fun hHeld => ?_)
            clear hK K
            refine wpAnyH_ready (rs := [1]) (by kernel_rfl) (by simp) (AllReadyH.cons (o := _) rfl (fun K hK => ?_) AllReadyH.nil)
            go_simp
            refine (CopyCommit_any HU.out.x (HU.out.below HA.out.b).r (by omega)).mono ?_
            rintro e w4 ⟨p7, rfl, n4⟩
            have HR7 := Lib.hid (show OwnV w w4 p7 a.vs from owns_mono n4.1 HA.out.b.size)
            have HO8 := Lib.hid (kb_below n4.2 HO8.out)
            have HO7 := Lib.hid (kb_below n4.2 HO7.out)
            have HA := Lib.hid (HA.out.below n4.2)
            refine hK.out _ _ ⟨range_of_kb HA.out.e0, range_of_kb HA.out.e1⟩ (fun hHeld => ?_)
            clear hK K n4
            refine wpAnyH_ready (rs := [3]) (by kernel_rfl) (by simp) (AllReadyH.cons (o := _) rfl (fun K hK => ?_) AllReadyH.nil)
            go_simp
            refine (CopyCommit_any HV.out.x (HV.out.below HA.out.b).r (by omega)).mono ?_
            rintro e w5 ⟨p8, rfl, n5⟩
            have HR8 := Lib.hid (show OwnV w w5 p8 b.vs from owns_mono n5.1 HA.out.b.size)
            have HR7 := Lib.hid (OwnV.below HR7.out n5.2)
            have HO8 := Lib.hid (kb_below n5.2 HO8.out)
            have HO7 := Lib.hid (kb_below n5.2 HO7.out)
            have HA := Lib.hid (HA.out.below n5.2)
            refine hK.out _ _ ⟨range_of_kb HA.out.e0, range_of_kb HA.out.e1⟩ (fun hHeld => ?_)
            clear hK K n5
            have hne : w3.heap.size + 1 ≠ w3.heap.size := by omega
            obtain ⟨A7, c7, rfl⟩ := owns_slice0 HR7.out
            obtain ⟨A8, c8, rfl⟩ := owns_slice0 HR8.out
            refine wpAnyH_ready (rs := [6]) (by kernel_rfl) (by simp) (AllReadyH.cons (o := _) rfl (fun K hK => ?_) AllReadyH.nil)
            refine step_store_c rfl _ _ rfl _ rfl rfl HO7.out zArr HU.out.x rfl ?_
            intro w20 g20 k20
            have HB := Lib.hid (two_stores1 HA.out HR7.out HR8.out HO7.out HO8.out (by omega) hne k20)
            refine hK.out _ _ ⟨range_of_kb HB.out.1.e0, range_of_kb HB.out.1.e1⟩ (fun hHeld => ?_)
            clear hK K k20
            refine wpAnyH_ready (rs := [7]) (by kernel_rfl) (by simp) (AllReadyH.cons (o := _) rfl (fun K hK => ?_) AllReadyH.nil)
            refine step_store_c rfl _ _ rfl _ rfl rfl HB.out.2.2.2 zArr HV.out.x rfl ?_
            intro w21 g21 k21
            have HC := Lib.hid (two_stores2 HB.out g20 (by omega) hne g21 k21)
            refine hK.out _ _ ⟨range_of_kb HC.out.ai.e0, range_of_kb HC.out.ai.e1⟩ (fun hHeld => ?_)
            clear hK K g20 g21 k21
            refine wpAnyH_done (by kernel_rfl) ?_ _
            clear hHeld
            go_wp2_with fail
            go_meet
            case rel => exact ⟨_, _, _, _, rfl, rfl, HC⟩
      case rest =>
        obtain ⟨o7, o8, p, q, rfl, rfl, HS⟩ := hcut
        have HP := HS.out.rp
        have HQ := HS.out.rq
        obtain ⟨A7, c7, rfl⟩ := owns_slice0 HP
        obtain ⟨A8, c8, rfl⟩ := owns_slice0 HQ
        clear HP HQ
        obtain ⟨hp0, hp1⟩ := vt_boxed HS.out.ai.e2
        go_wp2_with (first
          | (with_reducible refine wpList_load_cw _ rfl (by kernel_rfl) _ rfl HS.out.c7 HU.out.x ?_))
        refine (Add_any y HU.out.x (VRow.of_own HS.out.rp) (by omega)).mono ?_
        rintro e w4 ⟨v9, rfl, n9⟩
        have HM9 := Lib.hid n9
        obtain ⟨A9, c9, rfl⟩ := owns_slice0 n9.1
        clear n9
        have HS := Lib.hid (HS.out.below HM9.out.2)
        have HS := Lib.hid (HS.out.below (bl_alloc (Below.refl _ w4) (.cells (ccs (addC a y) (.slice A9 (addC a y).vs.length c9)).toArray 26)))
        have T9 := Lib.hid (show Told (w4.alloc (.cells (ccs (addC a y) (.slice A9 (addC a y).vs.length c9)).toArray 26)) _ w4.heap.size (addC a y) (.slice A9 (addC a y).vs.length c9) from ⟨(addC_x y HU.out.x), kb_new rfl _, HM9.out.1.alloc _⟩)
        clear hp0 hp1
        obtain ⟨hp0, hp1⟩ := vt_boxed HS.out.ai.e2
        go_wp2_with (first
          | (with_reducible refine wpList_load_cw _ rfl (by kernel_rfl) _ rfl HS.out.ai.e0 HU.out.x ?_)
          | (refine wpList_store_cn (op := ⟨none, _, _, _, _, _⟩) rfl _ _ rfl rfl rfl (by kernel_rfl) (addC_x y HU.out.x) rfl ?_))
        refine (rAdd_any y HU.out.x (HU.out.below HS.out.ai.b).r (by omega)).mono ?_
        rintro e w5 ⟨v11, rfl, n11⟩
        have HM11 := Lib.hid n11
        obtain ⟨A11, c11, rfl⟩ := owns_slice0 n11.1
        clear n11
        have HS := Lib.hid (HS.out.below HM11.out.2)
        have T9 := Lib.hid (T9.out.below HM11.out.2)
        have HS := Lib.hid (HS.out.below (bl_alloc (Below.refl _ w5) (.cells (ccs (addC a y) (.slice A11 (addC a y).vs.length c11)).toArray 26)))
        have T9 := Lib.hid (T9.out.below (bl_alloc (Below.refl _ w5) (.cells (ccs (addC a y) (.slice A11 (addC a y).vs.length c11)).toArray 26)))
        have T11 := Lib.hid (show Told (w5.alloc (.cells (ccs (addC a y) (.slice A11 (addC a y).vs.length c11)).toArray 26)) _ w5.heap.size (addC a y) (.slice A11 (addC a y).vs.length c11) from ⟨(addC_x y HU.out.x), kb_new rfl _, HM11.out.1.alloc _⟩)
        clear hp0 hp1
        have hlt := Lib.hid (fun b h => (T9.out.r.lt b h).2)
        go_wp2_with (first
          | (with_reducible refine wpList_load_cw _ rfl (by kernel_rfl) _ rfl HS.out.c7 HU.out.x ?_)
          | (with_reducible refine wpList_load_cw _ rfl (by kernel_rfl) _ rfl HS.out.c8 HV.out.x ?_)
          | (refine wpList_store_cn (op := ⟨none, _, _, _, _, _⟩) rfl _ _ rfl rfl rfl (by kernel_rfl) (addC_x y HU.out.x) rfl ?_))
        refine (Join_any HU.out.x HV.out.x (VRow.of_own HS.out.rp) (VRow.of_own HS.out.rq) (by omega) (by omega)).mono ?_
        rintro e w6 ⟨v13, rfl, n13⟩
        have HM13 := Lib.hid n13
        obtain ⟨A13, c13, rfl⟩ := owns_slice0 n13.1
        clear n13
        have HS := Lib.hid (HS.out.below HM13.out.2)
        have T9 := Lib.hid (T9.out.below HM13.out.2)
        have T11 := Lib.hid (T11.out.below HM13.out.2)
        have HS := Lib.hid (HS.out.below (bl_alloc (Below.refl _ w6) (.cells (ccs (joinC a b) (.slice A13 (joinC a b).vs.length c13)).toArray 26)))
        have T9 := Lib.hid (T9.out.below (bl_alloc (Below.refl _ w6) (.cells (ccs (joinC a b) (.slice A13 (joinC a b).vs.length c13)).toArray 26)))
        have T11 := Lib.hid (T11.out.below (bl_alloc (Below.refl _ w6) (.cells (ccs (joinC a b) (.slice A13 (joinC a b).vs.length c13)).toArray 26)))
        have T13 := Lib.hid (show Told (w6.alloc (.cells (ccs (joinC a b) (.slice A13 (joinC a b).vs.length c13)).toArray 26)) _ w6.heap.size (joinC a b) (.slice A13 (joinC a b).vs.length c13) from ⟨(joinC_x b HU.out.x), kb_new rfl _, HM13.out.1.alloc _⟩)
        go_wp2_with (first
          | (with_reducible refine wpList_load_cw _ rfl (by kernel_rfl) _ rfl HS.out.ai.e0 HU.out.x ?_)
          | (with_reducible refine wpList_load_cw _ rfl (by kernel_rfl) _ rfl HS.out.ai.e1 HV.out.x ?_)
          | (refine wpList_store_cn (op := ⟨none, _, _, _, _, _⟩) rfl _ _ rfl rfl rfl (by kernel_rfl) (joinC_x b HU.out.x) rfl ?_))
        refine (rJoin_any HU.out.x HV.out.x (HU.out.below HS.out.ai.b).r (HV.out.below HS.out.ai.b).r (by omega) (by omega)).mono ?_
        rintro e w7 ⟨v15, rfl, n15⟩
        have HM15 := Lib.hid n15
        obtain ⟨A15, c15, rfl⟩ := owns_slice0 n15.1
        clear n15
        have HS := Lib.hid (HS.out.below HM15.out.2)
        have T9 := Lib.hid (T9.out.below HM15.out.2)
        have T11 := Lib.hid (T11.out.below HM15.out.2)
        have T13 := Lib.hid (T13.out.below HM15.out.2)
        have HS := Lib.hid (HS.out.below (bl_alloc (Below.refl _ w7) (.cells (ccs (joinC a b) (.slice A15 (joinC a b).vs.length c15)).toArray 26)))
        have T9 := Lib.hid (T9.out.below (bl_alloc (Below.refl _ w7) (.cells (ccs (joinC a b) (.slice A15 (joinC a b).vs.length c15)).toArray 26)))
        have T11 := Lib.hid (T11.out.below (bl_alloc (Below.refl _ w7) (.cells (ccs (joinC a b) (.slice A15 (joinC a b).vs.length c15)).toArray 26)))
        have T13 := Lib.hid (T13.out.below (bl_alloc (Below.refl _ w7) (.cells (ccs (joinC a b) (.slice A15 (joinC a b).vs.length c15)).toArray 26)))
        have T15 := Lib.hid (show Told (w7.alloc (.cells (ccs (joinC a b) (.slice A15 (joinC a b).vs.length c15)).toArray 26)) _ w7.heap.size (joinC a b) (.slice A15 (joinC a b).vs.length c15) from ⟨(joinC_x b HU.out.x), kb_new rfl _, HM15.out.1.alloc _⟩)
        have hal := addC_len a y
        have hjl := joinC_len a b
        go_wp2_with (first
          | (with_reducible refine wpList_load_cw _ rfl (by kernel_rfl) _ rfl T9.out.h T9.out.x ?_)
          | (with_reducible refine wpList_load_cw _ rfl (by kernel_rfl) _ rfl T11.out.h T11.out.x ?_)
          | (refine wpList_store_cn (op := ⟨none, _, _, _, _, _⟩) rfl _ _ rfl rfl rfl (by kernel_rfl) (joinC_x b HU.out.x) rfl ?_))
        refine (SameCommit_any T9.out.x T11.out.x (VRow.of_own T9.out.r) (VRow.of_own T11.out.r) (by omega) (by omega)).mono ?_
        rintro e w8 ⟨rfl, bw8⟩
        have HS := Lib.hid (HS.out.below bw8)
        have T9 := Lib.hid (T9.out.below bw8)
        have T11 := Lib.hid (T11.out.below bw8)
        have T13 := Lib.hid (T13.out.below bw8)
        have T15 := Lib.hid (T15.out.below bw8)
        clear bw8
        rw [sameC_refl]
        go_wp2_with (first
          | (with_reducible refine wpList_load_cw _ rfl (by kernel_rfl) _ rfl T13.out.h T13.out.x ?_)
          | (with_reducible refine wpList_load_cw _ rfl (by kernel_rfl) _ rfl T15.out.h T15.out.x ?_))
        refine (SameCommit_any T13.out.x T15.out.x (VRow.of_own T13.out.r) (VRow.of_own T15.out.r) (by omega) (by omega)).mono ?_
        rintro e w9 ⟨rfl, bw9⟩
        have HS := Lib.hid (HS.out.below bw9)
        have T9 := Lib.hid (T9.out.below bw9)
        have T11 := Lib.hid (T11.out.below bw9)
        have T13 := Lib.hid (T13.out.below bw9)
        have T15 := Lib.hid (T15.out.below bw9)
        clear bw9
        rw [sameC_refl]
        go_wp2_with (first
          | (with_reducible refine wpList_load_cw _ rfl (by kernel_rfl) _ rfl T9.out.h T9.out.x ?_))
        refine (OverCommit_any T9.out.x T9.out.r (by omega)).mono ?_
        rintro e w10 ⟨⟨z10, rfl⟩, k10⟩
        have HS := Lib.hid (HS.out.keep k10 (fun x e => (T9.out.r.lt x e).1))
        have T13 := Lib.hid (T13.out.keep T9.out.r k10 hlt.out)
        clear k10
        go_wp2_with (first
          | (with_reducible refine wpList_load_cw _ rfl (by kernel_rfl) _ rfl T13.out.h T13.out.x ?_))
        refine (OverCommit_any T13.out.x T13.out.r (by omega)).mono ?_
        rintro e w11 ⟨⟨z11, rfl⟩, k11⟩
        have HS := Lib.hid (HS.out.keep k11 (fun x e => by have := (T13.out.r.lt x e).1; have := HM9.out.2.size; have := HM11.out.2.size; simp at *; omega))
        clear k11
        go_wp2_with (first
          | (with_reducible refine wpList_load_cw _ rfl (by kernel_rfl) _ rfl HS.out.c7 HU.out.x ?_)
          | (with_reducible refine wpList_load_cw _ rfl (by kernel_rfl) _ rfl HS.out.ai.e0 HU.out.x ?_))
        refine (SameCommit_any HU.out.x HU.out.x (VRow.of_own HS.out.rp) (HU.out.below HS.out.ai.b).r (by omega) (by omega)).mono ?_
        rintro e w12 ⟨rfl, bw12⟩
        have HS := Lib.hid (HS.out.below bw12)
        clear bw12
        rw [sameC_refl]
        go_wp2_with (first
          | (with_reducible refine wpList_load_cw _ rfl (by kernel_rfl) _ rfl HS.out.c8 HV.out.x ?_)
          | (with_reducible refine wpList_load_cw _ rfl (by kernel_rfl) _ rfl HS.out.ai.e1 HV.out.x ?_))
        refine (SameCommit_any HV.out.x HV.out.x (VRow.of_own HS.out.rq) (HV.out.below HS.out.ai.b).r (by omega) (by omega)).mono ?_
        rintro e w13 ⟨rfl, bw13⟩
        have HS := Lib.hid (HS.out.below bw13)
        clear bw13
        rw [sameC_refl]
        go_wp2_with fail
        refine (awake_yes _).mono ?_
        rintro e w14 ⟨rfl, b14⟩
        have HB := Lib.hid (bl_then HS.out.ai.b b14)
        clear b14
        go_wp2_with fail
        go_ret
        exact ⟨rfl, HB.out⟩
end Go.Proofs.Ytooghjnddifpdaa
