/- The law package's adds, joins, awake. -/
import Derived.Test.YtooghjnddifpdaaCm18
import Derived.Test.YtooghjnddifpdaaCm19
namespace Go.Proofs.Ytooghjnddifpdaa
open Go.RowKit Go.Proofs.Ytooghjnddifpdaa.Cm BigFrame
set_option linter.unusedSimpArgs false
set_option linter.unusedVariables false
attribute [local go_sem] cell_alloc_some frozen_alloc_some

theorem addC_x {c : C} (x : Vt) (h : c.x.length = 32) : (addC c x).x.length = 32 := by unfold addC; split <;> first | exact h | rfl
theorem joinC_x {a : C} (b : C) (h : a.x.length = 32) : (joinC a b).x.length = 32 := by unfold joinC; split <;> first | exact h | rfl
theorem addC_len (c : C) (x : Vt) : (addC c x).vs.length ≤ c.vs.length + 1 := by unfold addC; split <;> simp [laid_len, cZ]
theorem join_len : ∀ (l L M : List Vt), joinP L l = some M → M.length ≤ L.length + l.length
  | [], L, M, h => by simp [joinP] at h; subst h; simp
  | v :: l, L, M, h => by
    unfold joinP at h
    split at h
    · have := join_len l _ M h; rw [laid_len] at this; simp; omega
    · split at h
      · have := join_len l _ M h; simp; omega
      · cases h
theorem joinC_len (a b : C) : (joinC a b).vs.length ≤ a.vs.length + b.vs.length := by
  unfold joinC; split
  · cases h : joinP a.vs b.vs with
    | none => simp
    | some M => simpa using join_len _ _ M h
  · simp [cZ]

set_option maxRecDepth 100000 in
set_option maxHeartbeats 4000000 in
theorem adds_yes {w : World} {c d : C} {u v : Value} (p : Int) (g : Nat) (er : Int) (hc : c.x.length = 32) (hd : d.x.length = 32) (hu : VRow w u c.vs) (hv : VRow w v d.vs) (hlc : c.vs.length ≤ 1000) (hld : d.vs.length ≤ 1000) (hg : g < 4611686018427387904) (hE : (addE c ⟨p, g⟩ : Int) = er) (hS : sameC (addC c ⟨p, g⟩) d = true) :
    Calls Try.prog 23 #[.agg (ccs c u).toArray, .int .i64 p, .int .i64 g, .agg (ccs d v).toArray, .int .i64 er] w fun e w' => e = .returned (.bool true) ∧ Below w.heap.size w w' := by
  have HX := Lib.hid (And.intro hc hd)
  have HU := Lib.hid hu
  have HV := Lib.hid hv
  have hone := hu.one
  have honv := hv.one
  have HE := Lib.hid (And.intro hE hS)
  have hcv : IntKind.u64.wrap (g : Int) = (g : Int) := by rw [IntKind.wrap_u64]; omega
  clear hc hd hu hv hE hS
  go_enter Try.func23, Try.ntmps23
  go_upto_region 1 with fail
  refine wp_world fun wA hwA => ?_
  have D0 : wA.heap[w.heap.size]? = some (.cells (ccs c u).toArray 26 (0, 0)) := by rw [hwA]; exact kb_alloc (kb_new rfl _) _
  have D1 : wA.heap[w.heap.size + 1]? = some (.cells (ccs d v).toArray 26 (0, 0)) := by rw [hwA]; exact kb_new (by simp) _
  have bA : Below w.heap.size w wA := by rw [hwA]; exact bl_alloc (bl_alloc (Below.refl _ _) _) _
  have HA := Lib.hid (And.intro D0 (And.intro D1 bA))
  clear hwA D0 D1 bA
  go_wp2_with (with_reducible refine wpList_load_cw _ rfl (by kernel_rfl) _ rfl HA.out.1 HX.out.1 ?_)
  refine (Add_any ⟨p, g⟩ HX.out.1 (HU.out.below HA.out.2.2) (by omega)).mono ?_
  rintro e w1 ⟨v1, rfl, n1⟩
  rw [HE.out.1]
  have HN := Lib.hid n1
  have h1 := own1 n1.1
  have hax := addC_x ⟨p, g⟩ HX.out.1
  have hal := addC_len c ⟨p, g⟩
  have HAX := Lib.hid hax
  clear n1 hax
  have b2 := Lib.hid (bl_then HN.out.2 (bl_alloc (Below.refl w1.heap.size w1) (.cells (ccs (addC c ⟨p, g⟩) v1).toArray 26)))
  have D1 := Lib.hid (kb_below b2.out HA.out.2.1)
  have D2 := Lib.hid (show (w1.alloc (.cells (ccs (addC c ⟨p, g⟩) v1).toArray 26)).heap[w1.heap.size]? = some _ from kb_new rfl _)
  go_wp2_with (first
    | (refine wpList_store_cn (op := ⟨none, _, _, _, _, _⟩) rfl _ _ rfl rfl rfl (by kernel_rfl) HAX.out h1 ?_)
    | (with_reducible refine wpList_load_cw _ rfl (by kernel_rfl) _ rfl D1.out HX.out.2 ?_)
    | (with_reducible refine wpList_load_cw _ rfl (by kernel_rfl) _ rfl D2.out HAX.out ?_))
  refine (SameCommit_any HAX.out HX.out.2 (HN.out.row.below (bl_alloc (Below.refl _ _) _)) (HV.out.below (bl_then HA.out.2.2 b2.out)) (by omega) (by omega)).mono ?_
  rintro e w3 ⟨rfl, b3⟩
  rw [HE.out.2]
  have HB := Lib.hid (bl_then (bl_then HA.out.2.2 b2.out) b3)
  clear b3
  go_wp2_with fail
  go_ret
  exact ⟨rfl, HB.out⟩

set_option maxRecDepth 100000 in
set_option maxHeartbeats 4000000 in
theorem joins_yes {w : World} {a b d : C} {u s v : Value} (er : Int) (ha : a.x.length = 32) (hb : b.x.length = 32) (hd : d.x.length = 32) (hu : VRow w u a.vs) (hs : VRow w s b.vs) (hv : VRow w v d.vs) (hla : a.vs.length ≤ 1000) (hlb : b.vs.length ≤ 1000) (hld : d.vs.length ≤ 1000) (hE : (joinE a b : Int) = er) (hS : sameC (joinC a b) d = true) :
    Calls Try.prog 25 #[.agg (ccs a u).toArray, .agg (ccs b s).toArray, .agg (ccs d v).toArray, .int .i64 er] w fun e w' => e = .returned (.bool true) ∧ Below w.heap.size w w' := by
  have HX := Lib.hid (And.intro ha (And.intro hb hd))
  have HU := Lib.hid hu
  have HW := Lib.hid hs
  have HV := Lib.hid hv
  have hone := hu.one
  have hons := hs.one
  have honv := hv.one
  have HE := Lib.hid (And.intro hE hS)
  clear ha hb hd hu hs hv hE hS
  go_enter Try.func25, Try.ntmps25
  go_upto_region 1 with fail
  refine wp_world fun wA hwA => ?_
  have D0 : wA.heap[w.heap.size]? = some (.cells (ccs a u).toArray 26 (0, 0)) := by rw [hwA]; exact kb_alloc (kb_alloc (kb_new rfl _) _) _
  have D1 : wA.heap[w.heap.size + 1]? = some (.cells (ccs b s).toArray 26 (0, 0)) := by rw [hwA]; exact kb_alloc (kb_new (by simp) _) _
  have D2 : wA.heap[w.heap.size + 2]? = some (.cells (ccs d v).toArray 26 (0, 0)) := by rw [hwA]; exact kb_new (by simp) _
  have bA : Below w.heap.size w wA := by rw [hwA]; exact bl_alloc (bl_alloc (bl_alloc (Below.refl _ _) _) _) _
  have HA := Lib.hid (And.intro D0 (And.intro D1 (And.intro D2 bA)))
  clear hwA D0 D1 D2 bA
  go_wp2_with (first
    | (with_reducible refine wpList_load_cw _ rfl (by kernel_rfl) _ rfl HA.out.1 HX.out.1 ?_)
    | (with_reducible refine wpList_load_cw _ rfl (by kernel_rfl) _ rfl HA.out.2.1 HX.out.2.1 ?_))
  refine (Join_any HX.out.1 HX.out.2.1 (HU.out.below HA.out.2.2.2) (HW.out.below HA.out.2.2.2) hla hlb).mono ?_
  rintro e w1 ⟨v1, rfl, n1⟩
  rw [HE.out.1]
  have HN := Lib.hid n1
  have h1 := own1 n1.1
  have hal := joinC_len a b
  have HAX := Lib.hid (joinC_x b HX.out.1)
  clear n1
  have b2 := Lib.hid (bl_then HN.out.2 (bl_alloc (Below.refl w1.heap.size w1) (.cells (ccs (joinC a b) v1).toArray 26)))
  have D1 := Lib.hid (kb_below b2.out HA.out.2.2.1)
  have D2 := Lib.hid (show (w1.alloc (.cells (ccs (joinC a b) v1).toArray 26)).heap[w1.heap.size]? = some _ from kb_new rfl _)
  go_wp2_with (first
    | (refine wpList_store_cn (op := ⟨none, _, _, _, _, _⟩) rfl _ _ rfl rfl rfl (by kernel_rfl) HAX.out h1 ?_)
    | (with_reducible refine wpList_load_cw _ rfl (by kernel_rfl) _ rfl D1.out HX.out.2.2 ?_)
    | (with_reducible refine wpList_load_cw _ rfl (by kernel_rfl) _ rfl D2.out HAX.out ?_))
  refine (SameCommit_any HAX.out HX.out.2.2 (HN.out.row.below (bl_alloc (Below.refl _ _) _)) (HV.out.below (bl_then HA.out.2.2.2 b2.out)) (by omega) (by omega)).mono ?_
  rintro e w3 ⟨rfl, b3⟩
  rw [HE.out.2]
  have HB := Lib.hid (bl_then (bl_then HA.out.2.2.2 b2.out) b3)
  clear b3
  go_wp2_with fail
  go_ret
  exact ⟨rfl, HB.out⟩

/-- Places and signatures in turns, as cells. -/
def tcs (l : List Vt) : List Value := l.flatMap fun v => [.int .i64 v.p, .int .i64 (v.g : Int)]
theorem tcs_at : ∀ (l : List Vt) (k : Nat), k < l.length → (tcs l)[k * 2]? = some (.int .i64 (vAt l k).p) ∧ (tcs l)[k * 2 + 1]? = some (.int .i64 ((vAt l k).g : Int))
  | [], _, h => by simp at h
  | v :: l, 0, _ => ⟨rfl, rfl⟩
  | v :: l, k + 1, h => by
    obtain ⟨h1, h2⟩ := tcs_at l k (by simpa using h)
    have e : tcs (v :: l) = [.int .i64 v.p, .int .i64 (v.g : Int)] ++ tcs l := rfl
    rw [vAt_cons_s, e, show (k + 1) * 2 = k * 2 + 1 + 1 by omega]
    exact ⟨h1, h2⟩
theorem turns_lit {w : World} {b : Nat} {l : List Vt} {cs : Array Value} {fr : Nat × Nat} (h : w.heap[b]? = some (.cells cs 3 fr)) (hc : cs = (tcs l).toArray) (hg : ∀ v ∈ l, v.g < 4611686018427387904) : Turns w (some ⟨b, 0, none⟩) l := fun _ => ⟨b, rfl, kb_lt h, fun k hk => by
  obtain ⟨h1, h2⟩ := tcs_at l k hk
  subst hc
  refine ⟨(kb_cell h _).trans (by simpa using h1), (kb_cell h _).trans (by simpa using h2), ?_⟩
  have := vAt_some hk
  exact hg _ (List.mem_of_getElem? this)⟩
theorem turns_nil {w : World} {A : Option Addr} : Turns w A [] := fun h => by simp at h
abbrev l4 : List Vt := [⟨0, 7⟩, ⟨3, 9⟩]
abbrev l3 : List Vt := [⟨3, 9⟩]
abbrev l0 : List Vt := [⟨0, 7⟩]

set_option maxRecDepth 100000 in
set_option maxHeartbeats 4000000 in
theorem awake_yes (w : World) : Calls Try.prog 10 #[] w fun e w' => e = .returned (.bool true) ∧ Below w.heap.size w w' := by
  go_enter Try.func10, Try.ntmps10
  go_wp2_with fail
  refine (of_any 5 (turns_lit (l := [⟨0, 7⟩, ⟨3, 9⟩]) (kb_new (w := w) rfl _) rfl (by simp)) (by simp) (by rfl)).mono ?_
  rintro e w1 ⟨v1, rfl, n1⟩
  have HB1 := Lib.hid (bl_then (bl_then (Below.refl w.heap.size w) (bl_alloc (Below.refl _ _) (.cells #[.int .i64 0, .int .i64 7, .int .i64 3, .int .i64 9] 3))) n1.2)
  have HV1 := Lib.hid n1.row
  obtain ⟨A1, c1, rfl⟩ := owns_slice0 n1.1
  clear n1
  go_wp2_with fail
  refine (Of_any' 3 (ofC_x 5 l4) HV1.out (by simp [ofC])).mono ?_
  rintro e w2 ⟨rfl, b2⟩
  have HB2 := Lib.hid (bl_then HB1.out b2)
  have HV1 := Lib.hid (HV1.out.below b2)
  clear b2
  rw [show sigR (ofC 5 l4).vs 3 = (9, true) by decide]
  go_wp2_with fail
  refine (of_any 5 (turns_lit (l := [⟨3, 9⟩]) (kb_new (w := w2) rfl _) rfl (by simp)) (by simp) (by rfl)).mono ?_
  rintro e w3 ⟨v3, rfl, n3⟩
  have HB3 := Lib.hid (bl_then (bl_then HB2.out (bl_alloc (Below.refl _ _) (.cells #[.int .i64 3, .int .i64 9] 3))) n3.2)
  have HV3 := Lib.hid n3.row
  obtain ⟨A3, c3, rfl⟩ := owns_slice0 n3.1
  clear n3
  go_wp2_with fail
  refine (of_any 5 (turns_lit (l := [⟨0, 7⟩, ⟨3, 9⟩]) (kb_new (w := w3) rfl _) rfl (by simp)) (by simp) (by rfl)).mono ?_
  rintro e w4 ⟨v4, rfl, n4⟩
  have HB4 := Lib.hid (bl_then (bl_then HB3.out (bl_alloc (Below.refl _ _) (.cells #[.int .i64 0, .int .i64 7, .int .i64 3, .int .i64 9] 3))) n4.2)
  have HV3 := Lib.hid (HV3.out.below (bl_then (bl_alloc (Below.refl _ _) (.cells #[.int .i64 0, .int .i64 7, .int .i64 3, .int .i64 9] 3)) n4.2))
  have HV4 := Lib.hid n4.row
  obtain ⟨A4, c4, rfl⟩ := owns_slice0 n4.1
  clear n4
  go_wp2_with fail
  refine (adds_yes (c := ofC 5 l3) (d := ofC 5 l4) 0 7 0 (ofC_x 5 _) (ofC_x 5 _) HV3.out HV4.out (by simp [ofC]) (by simp [ofC]) (by decide) (by decide) (by decide)).mono ?_
  rintro e w5 ⟨rfl, b5⟩
  have HB5 := Lib.hid (bl_then HB4.out b5)
  have HV3 := Lib.hid (HV3.out.below b5)
  have HV4 := Lib.hid (HV4.out.below b5)
  clear b5
  go_wp2_with fail
  refine (of_any 0 (turns_nil (w := w5)) (by simp) (by rfl)).mono ?_
  rintro e w6 ⟨v6, rfl, n6⟩
  have HB6 := Lib.hid (bl_then (bl_then HB5.out (Below.refl _ _)) n6.2)
  have HV6 := Lib.hid n6.row
  obtain ⟨A6, c6, rfl⟩ := owns_slice0 n6.1
  clear n6
  go_wp2_with fail
  refine (Check_any' (c := ofC 0 []) (ofC_x 0 []) HV6.out (by simp [ofC])).mono ?_
  rintro e w7 ⟨rfl, b7⟩
  have HB7 := Lib.hid (bl_then HB6.out b7)
  have HV6 := Lib.hid (HV6.out.below b7)
  clear b7
  rw [show chk (ofC 0 []) = 3 by decide]
  go_wp2_with fail
  refine (of_any 5 (turns_lit (l := [⟨0, 7⟩]) (kb_new (w := w7) rfl _) rfl (by simp)) (by simp) (by rfl)).mono ?_
  rintro e w8 ⟨v8, rfl, n8⟩
  have HB8 := Lib.hid (bl_then (bl_then HB7.out (bl_alloc (Below.refl _ _) (.cells #[.int .i64 0, .int .i64 7] 3))) n8.2)
  have HV8 := Lib.hid n8.row
  obtain ⟨A8, c8, rfl⟩ := owns_slice0 n8.1
  clear n8
  go_wp2_with fail
  refine (of_any 5 (turns_lit (l := [⟨0, 7⟩, ⟨3, 9⟩]) (kb_new (w := w8) rfl _) rfl (by simp)) (by simp) (by rfl)).mono ?_
  rintro e w9 ⟨v9, rfl, n9⟩
  have HB9 := Lib.hid (bl_then (bl_then HB8.out (bl_alloc (Below.refl _ _) (.cells #[.int .i64 0, .int .i64 7, .int .i64 3, .int .i64 9] 3))) n9.2)
  have HV8 := Lib.hid (HV8.out.below (bl_then (bl_alloc (Below.refl _ _) (.cells #[.int .i64 0, .int .i64 7, .int .i64 3, .int .i64 9] 3)) n9.2))
  have HV9 := Lib.hid n9.row
  obtain ⟨A9, c9, rfl⟩ := owns_slice0 n9.1
  clear n9
  go_wp2_with fail
  refine (of_any 5 (turns_lit (l := [⟨0, 7⟩, ⟨3, 9⟩]) (kb_new (w := w9) rfl _) rfl (by simp)) (by simp) (by rfl)).mono ?_
  rintro e w10 ⟨v10, rfl, n10⟩
  have HB10 := Lib.hid (bl_then (bl_then HB9.out (bl_alloc (Below.refl _ _) (.cells #[.int .i64 0, .int .i64 7, .int .i64 3, .int .i64 9] 3))) n10.2)
  have HV8 := Lib.hid (HV8.out.below (bl_then (bl_alloc (Below.refl _ _) (.cells #[.int .i64 0, .int .i64 7, .int .i64 3, .int .i64 9] 3)) n10.2))
  have HV9 := Lib.hid (HV9.out.below (bl_then (bl_alloc (Below.refl _ _) (.cells #[.int .i64 0, .int .i64 7, .int .i64 3, .int .i64 9] 3)) n10.2))
  have HV10 := Lib.hid n10.row
  obtain ⟨A10, c10, rfl⟩ := owns_slice0 n10.1
  clear n10
  go_wp2_with fail
  refine (joins_yes (a := ofC 5 l0) (b := ofC 5 l4) (d := ofC 5 l4) 0 (ofC_x 5 _) (ofC_x 5 _) (ofC_x 5 _) HV8.out HV9.out HV10.out (by simp [ofC]) (by simp [ofC]) (by simp [ofC]) (by decide) (by decide)).mono ?_
  rintro e w11 ⟨rfl, b11⟩
  have HB11 := Lib.hid (bl_then HB10.out b11)
  have HV8 := Lib.hid (HV8.out.below b11)
  have HV9 := Lib.hid (HV9.out.below b11)
  have HV10 := Lib.hid (HV10.out.below b11)
  clear b11
  go_wp2_with fail
  go_ret
  exact ⟨rfl, HB11.out⟩
end Go.Proofs.Ytooghjnddifpdaa
