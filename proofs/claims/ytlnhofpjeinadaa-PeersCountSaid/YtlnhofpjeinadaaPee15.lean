/- The walks of the reference of peers: Strike, Praise. -/
import Derived.Test.YtlnhofpjeinadaaPee12
import Derived.Test.YtlnhofpjeinadaaPee14
import Derived.RegionTactic
import Derived.ChangeAlike
import Derived.BigRegion
namespace Go.Proofs.Ytlnhofpjeinadaa
set_option linter.unusedSimpArgs false
set_option linter.unusedVariables false
open Go.RowKit Go.Proofs.Ytlnhofpjeinadaa.Pc Go.Shelf BigFrame
attribute [local go_sem] run_store_float

theorem RP.merit {w : World} {q g : Nat} {L : List Pr} (h : RP w q g L) {i : Nat} {x : Pr} (hx : L[i]? = some x) {s : Int} {p : Nat} (hs : okS s = true) (hp : p < 18446744073709551616) :
    RP ((w.setCell ⟨g, i * 4 + 2, none⟩ (.int .i64 s)).setCell ⟨g, i * 4 + 2 + 1, none⟩ (.float .f64 p)) q g (L.set i { x with s := s, p := p }) := by
  have hf := h.fit x (List.mem_of_getElem? hx)
  have h1 := h.set (j := 2) (x' := { x with s := s }) hx layR_len (by omega) rfl ⟨hf.r1, hf.r2, hf.k1, hf.k2, hs, hf.p⟩
  have hl := (List.getElem?_eq_some_iff.1 hx).1
  have h2 := h1.set (j := 3) (x := { x with s := s }) (x' := { x with s := s, p := p }) (by rw [List.getElem?_set_self hl]) layR_len (by omega) rfl ⟨hf.r1, hf.r2, hf.k1, hf.k2, hs, hp⟩
  rw [set_set] at h2
  exact h2
theorem RP.strikes {w : World} {q g : Nat} {L : List Pr} (h : RP w q g L) {i : Nat} {x : Pr} (hx : L[i]? = some x) {k : Int} (h1 : 0 ≤ k) (h2 : k ≤ 1000) :
    RP (w.setCell ⟨g, i * 4 + 1, none⟩ (.int .i64 k)) q g (L.set i { x with strikes := k }) := by
  have hf := h.fit x (List.mem_of_getElem? hx)
  exact h.set (j := 1) hx layR_len (by omega) rfl ⟨hf.r1, hf.r2, h1, h2, hf.s, hf.p⟩
set_option maxHeartbeats 1000000 in
theorem rStrike_no {w : World} {q g : Nat} {L : List Pr} (F : RP w q g L) (who : Int) (hi : isP L who = false) : Calls Try.prog 56 #[.pointer (some ⟨q, 0, none⟩), .int .i64 who] w (StrikePost 87 89 layR q g L who w) := by
  have HE := Lib.hid (show strikeI L who = 0 ∧ strikeE L who = 10 ∧ strikeL L who = L by unfold strikeI strikeE strikeL; rw [hi]; exact ⟨rfl, rfl, rfl⟩)
  have HN := Lib.hid (hi ▸ is_any F who)
  have HF := Lib.hid F
  clear hi F
  go_enter Try.func56, Try.ntmps56
  go_wp2_with (go_at_call 62; (with_reducible refine (HN.out).mono ?_); rintro e w1 ⟨rfl, rfl⟩)
  exact bodyPost_ret (v := .tuple #[.int .i64 0, .int .i64 10]) (by simp [results, Try.results56, go_sem]) rfl ⟨L, by rw [HE.out.1, HE.out.2.1], by rw [HE.out.2.2]; exact Alk.refl _, HF.out, Keep.refl _ _⟩
set_option maxHeartbeats 1000000 in
theorem rPraise_no {w : World} {q g : Nat} {L : List Pr} (F : RP w q g L) (who t : Int) (hi : isP L who = false) : Calls Try.prog 57 #[.pointer (some ⟨q, 0, none⟩), .int .i64 who, .int .i64 t] w (PraisePost 87 89 layR q g L who t w) := by
  have HE := Lib.hid (show praiseE L who t = 10 ∧ praiseL L who t = L by unfold praiseE praiseL; rw [hi]; exact ⟨rfl, rfl⟩)
  have HN := Lib.hid (hi ▸ is_any F who)
  have HF := Lib.hid F
  clear hi F
  go_enter Try.func57, Try.ntmps57
  go_wp2_with (go_at_call 62; (with_reducible refine (HN.out).mono ?_); rintro e w1 ⟨rfl, rfl⟩)
  go_ret
  exact ⟨L, ret_int HE.out.1.symm, by rw [HE.out.2]; exact Alk.refl _, HF.out, Keep.refl _ _⟩

set_option maxRecDepth 100000 in
set_option maxHeartbeats 4000000 in
theorem rStrike_lt {w : World} {q g : Nat} {L : List Pr} (F : RP w q g L) (i : Nat) (ro st s : Int) (p : Nat) (hx : L[i]? = some ⟨ro, st, s, p⟩) (hst : st + 1 < 1000) : Calls Try.prog 56 #[.pointer (some ⟨q, 0, none⟩), .int .i64 i] w (StrikePost 87 89 layR q g L i w) := by
  have hlt : i < L.length := (List.getElem?_eq_some_iff.1 hx).1
  have hi : isP L i = true := by unfold isP; exact decide_eq_true (by omega)
  have HE := Lib.hid (show strikeI L i = st + 1 ∧ strikeE L i = 0 ∧ strikeL L i = L.set i (struck ⟨ro, st, s, p⟩) by
    unfold strikeI strikeE strikeL
    rw [hi, if_pos rfl, if_pos rfl, if_pos rfl, prA_of (who := (i : Int)) (by rw [Int.toNat_natCast]; exact hx), Int.toNat_natCast, upd_some hx]
    exact ⟨by dsimp only; omega, rfl, rfl⟩)
  have HN := Lib.hid (hi ▸ is_any F i)
  have HF := Lib.hid F
  have hfit := F.fit _ (List.mem_of_getElem? hx)
  have c1 := F.cell hx 1 _ rfl
  have c2 := F.cell hx 2 _ rfl
  have c3 := F.cell hx 3 _ rfl
  have HX := Lib.hid hx
  have hg := F.ltg
  have z := F.frozen
  have hne := F.ne
  obtain ⟨cap, hst0⟩ := F.st
  have c := kb_cell hst0
  have HS0 := Lib.hid hst0
  have k1 : (0 : Int) ≤ st := hfit.k1
  have k2 : (st : Int) ≤ 1000 := hfit.k2
  have hS : okS s = true := hfit.s
  have hl := Lib.hid hlt
  have hh := F.hi
  dsimp only at c1 c2 c3
  have HS := Lib.hid (show okS s = true ∧ badE s = 0 from ⟨hS, by unfold badE; rw [hS]; rfl⟩)
  clear hi F hfit hx hS hst0
  have cq := c 0
  generalize hn : L.length = n at *
  clear hn
  go_enter Try.func56, Try.ntmps56
  go_wp2_with (go_at_call 62; (with_reducible refine (HN.out).mono ?_); rintro e w1 ⟨rfl, rfl⟩)
  go_region
  have F2 := PX.below (RP.strikes HF.out HX.out (k := st + 1) (by omega) (by omega)) (bl_drew (Below.refl _ _))
  have hx2 : (L.set i ⟨ro, st + 1, s, p⟩)[i]? = some ⟨ro, st + 1, s, p⟩ := by rw [List.getElem?_set_self (List.getElem?_eq_some_iff.1 HX.out).1]
  have K2 : Keep (fun b => b = g) w (w.setCell ⟨g, i * 4 + 1, none⟩ (.int .i64 (st + 1))).drew := (Keep.set (S := fun b => b = g) (p := ⟨g, i * 4 + 1, none⟩) (Keep.refl _ _) (fun _ => rfl) _).drew
  have d2 := F2.cell hx2 2 _ rfl
  have d3 := F2.cell hx2 3 _ rfl
  have B2 := K2.kb HS0.out (fun h => hne h)
  have e0 := kb_cell B2
  have g2 := F2.ltg
  generalize (World.setCell w ⟨g, i * 4 + 1, none⟩ (Value.int .i64 (st + 1))).drew = w2 at *
  have H2 := Lib.hid (And.intro F2 (And.intro K2 B2))
  clear c c1 c2 c3 cq z F2 K2 B2 HN
  go_wp2_with fail
  refine (rBad_any s p w2).mono ?_
  rintro e w3 ⟨r, rfl, hr, hrl, hb2⟩
  rw [HS.out.2]
  go_wp2_with fail
  have F3 := PX.below H2.out.1 hb2
  have K3 := (Keep.then_below H2.out.2.1 hb2).alloc (.cells #[.int .i64 (badS s), .float .f64 r] 33)
  have B3 := kb_alloc (kb_below hb2 H2.out.2.2) (.cells #[.int .i64 (badS s), .float .f64 r] 33)
  have F4 := F3.below (bl_alloc (Below.refl _ _) (.cells #[.int .i64 (badS s), .float .f64 r] 33))
  have N3 : (w3.alloc (.cells #[.int .i64 (badS s), .float .f64 r] 33)).heap[w3.heap.size]? = some _ := kb_new rfl _
  generalize w3.alloc (.cells #[.int .i64 (badS s), .float .f64 r] 33) = w4 at *
  generalize w3.heap.size = b at *
  have m0 := (kb_cell N3 0).trans rfl
  have m1 := (kb_cell N3 1).trans rfl
  have e4 := (kb_cell B3 0).trans rfl
  have a2 := F4.cell hx2 2 _ rfl
  have a3 := F4.cell hx2 3 _ rfl
  have z := F4.frozen
  have g4 := F4.ltg
  have F5 := PX.below (RP.merit F4 hx2 (okS_bad HS.out.1) hrl) (bl_drew (Below.refl _ _))
  rw [set_set] at F5
  have K5 := ((K3.set (p := ⟨g, i * 4 + 2, none⟩) (fun _ => rfl) (.int .i64 (badS s))).set (p := ⟨g, i * 4 + 2 + 1, none⟩) (fun _ => rfl) (.float .f64 r)).drew
  have B5 := kb_drew (kb_far (kb_far B3 (p := ⟨g, i * 4 + 2, none⟩) (fun h => hne h) (.int .i64 (badS s))) (p := ⟨g, i * 4 + 2 + 1, none⟩) (fun h => hne h) (.float .f64 r))
  have HZ := Lib.hid (And.intro F5 (And.intro K5 hr))
  have x5 := F5.cell (show (L.set i ⟨ro, st + 1, badS s, r⟩)[i]? = some ⟨ro, st + 1, badS s, r⟩ by rw [List.getElem?_set_self (List.getElem?_eq_some_iff.1 HX.out).1]) 1 _ rfl
  have q5 := (kb_cell B5 0).trans rfl
  clear F3 K3 B3 F4 N3 F5 K5 B5 H2 d2 d3 e0 g2 hb2 hr hrl
  go_region
  go_wp2
  exact bodyPost_ret (v := .tuple #[.int .i64 (st + 1), .int .i64 0]) (by simp [results, Try.results56, go_sem]) rfl ⟨_, by rw [HE.out.1, HE.out.2.1], by rw [HE.out.2.2]; exact (Alk.refl L).set i ⟨rfl, (by simp only [struck]; omega), rfl, HZ.out.2.2⟩, HZ.out.1, HZ.out.2.1⟩

set_option maxRecDepth 100000 in
set_option maxHeartbeats 4000000 in
theorem rStrike_999 {w : World} {q g : Nat} {L : List Pr} (F : RP w q g L) (i : Nat) (ro s : Int) (p : Nat) (hx : L[i]? = some ⟨ro, 999, s, p⟩) : Calls Try.prog 56 #[.pointer (some ⟨q, 0, none⟩), .int .i64 i] w (StrikePost 87 89 layR q g L i w) := by
  have hlt : i < L.length := (List.getElem?_eq_some_iff.1 hx).1
  have hi : isP L i = true := by unfold isP; exact decide_eq_true (by omega)
  have HE := Lib.hid (show strikeI L i = 1000 ∧ strikeE L i = 0 ∧ strikeL L i = L.set i (struck ⟨ro, 999, s, p⟩) by
    unfold strikeI strikeE strikeL
    rw [hi, if_pos rfl, if_pos rfl, if_pos rfl, prA_of (who := (i : Int)) (by rw [Int.toNat_natCast]; exact hx), Int.toNat_natCast, upd_some hx]
    exact ⟨by dsimp only; omega, rfl, rfl⟩)
  have HN := Lib.hid (hi ▸ is_any F i)
  have HF := Lib.hid F
  have hfit := F.fit _ (List.mem_of_getElem? hx)
  have c1 := F.cell hx 1 _ rfl
  have c2 := F.cell hx 2 _ rfl
  have c3 := F.cell hx 3 _ rfl
  have HX := Lib.hid hx
  have hg := F.ltg
  have z := F.frozen
  have hne := F.ne
  obtain ⟨cap, hst0⟩ := F.st
  have c := kb_cell hst0
  have HS0 := Lib.hid hst0
  have k1 : (0 : Int) ≤ 999 := hfit.k1
  have k2 : (999 : Int) ≤ 1000 := hfit.k2
  have hS : okS s = true := hfit.s
  have hl := Lib.hid hlt
  have hh := F.hi
  dsimp only at c1 c2 c3
  have HS := Lib.hid (show okS s = true ∧ badE s = 0 from ⟨hS, by unfold badE; rw [hS]; rfl⟩)
  clear hi F hfit hx hS hst0
  have cq := c 0
  generalize hn : L.length = n at *
  clear hn
  go_enter Try.func56, Try.ntmps56
  go_wp2_with (go_at_call 62; (with_reducible refine (HN.out).mono ?_); rintro e w1 ⟨rfl, rfl⟩)
  go_region
  have F2 := PX.below (RP.strikes HF.out HX.out (k := 1000) (by omega) (by omega)) (bl_drew (Below.refl _ _))
  have hx2 : (L.set i ⟨ro, 1000, s, p⟩)[i]? = some ⟨ro, 1000, s, p⟩ := by rw [List.getElem?_set_self (List.getElem?_eq_some_iff.1 HX.out).1]
  have K2 : Keep (fun b => b = g) w (w.setCell ⟨g, i * 4 + 1, none⟩ (.int .i64 (1000))).drew := (Keep.set (S := fun b => b = g) (p := ⟨g, i * 4 + 1, none⟩) (Keep.refl _ _) (fun _ => rfl) _).drew
  have d2 := F2.cell hx2 2 _ rfl
  have d3 := F2.cell hx2 3 _ rfl
  have B2 := K2.kb HS0.out (fun h => hne h)
  have e0 := kb_cell B2
  have g2 := F2.ltg
  generalize (World.setCell w ⟨g, i * 4 + 1, none⟩ (Value.int .i64 (1000))).drew = w2 at *
  have H2 := Lib.hid (And.intro F2 (And.intro K2 B2))
  clear c c1 c2 c3 cq z F2 K2 B2 HN
  go_wp2_with fail
  refine (rBad_any s p w2).mono ?_
  rintro e w3 ⟨r, rfl, hr, hrl, hb2⟩
  rw [HS.out.2]
  go_wp2_with fail
  have F3 := PX.below H2.out.1 hb2
  have K3 := (Keep.then_below H2.out.2.1 hb2).alloc (.cells #[.int .i64 (badS s), .float .f64 r] 33)
  have B3 := kb_alloc (kb_below hb2 H2.out.2.2) (.cells #[.int .i64 (badS s), .float .f64 r] 33)
  have F4 := F3.below (bl_alloc (Below.refl _ _) (.cells #[.int .i64 (badS s), .float .f64 r] 33))
  have N3 : (w3.alloc (.cells #[.int .i64 (badS s), .float .f64 r] 33)).heap[w3.heap.size]? = some _ := kb_new rfl _
  generalize w3.alloc (.cells #[.int .i64 (badS s), .float .f64 r] 33) = w4 at *
  generalize w3.heap.size = b at *
  have m0 := (kb_cell N3 0).trans rfl
  have m1 := (kb_cell N3 1).trans rfl
  have e4 := (kb_cell B3 0).trans rfl
  have a2 := F4.cell hx2 2 _ rfl
  have a3 := F4.cell hx2 3 _ rfl
  have z := F4.frozen
  have g4 := F4.ltg
  have F5 := PX.below (RP.merit F4 hx2 (okS_bad HS.out.1) hrl) (bl_drew (Below.refl _ _))
  rw [set_set] at F5
  have K5 := ((K3.set (p := ⟨g, i * 4 + 2, none⟩) (fun _ => rfl) (.int .i64 (badS s))).set (p := ⟨g, i * 4 + 2 + 1, none⟩) (fun _ => rfl) (.float .f64 r)).drew
  have B5 := kb_drew (kb_far (kb_far B3 (p := ⟨g, i * 4 + 2, none⟩) (fun h => hne h) (.int .i64 (badS s))) (p := ⟨g, i * 4 + 2 + 1, none⟩) (fun h => hne h) (.float .f64 r))
  have HZ := Lib.hid (And.intro F5 (And.intro K5 hr))
  have x5 := F5.cell (show (L.set i ⟨ro, 1000, badS s, r⟩)[i]? = some ⟨ro, 1000, badS s, r⟩ by rw [List.getElem?_set_self (List.getElem?_eq_some_iff.1 HX.out).1]) 1 _ rfl
  have q5 := (kb_cell B5 0).trans rfl
  clear F3 K3 B3 F4 N3 F5 K5 B5 H2 d2 d3 e0 g2 hb2 hr hrl
  go_region
  go_wp2
  exact bodyPost_ret (v := .tuple #[.int .i64 (1000), .int .i64 0]) (by simp [results, Try.results56, go_sem]) rfl ⟨_, by rw [HE.out.1, HE.out.2.1], by rw [HE.out.2.2]; exact (Alk.refl L).set i ⟨rfl, (by simp only [struck]; omega), rfl, HZ.out.2.2⟩, HZ.out.1, HZ.out.2.1⟩

set_option maxRecDepth 100000 in
set_option maxHeartbeats 4000000 in
theorem rStrike_1000 {w : World} {q g : Nat} {L : List Pr} (F : RP w q g L) (i : Nat) (ro s : Int) (p : Nat) (hx : L[i]? = some ⟨ro, 1000, s, p⟩) : Calls Try.prog 56 #[.pointer (some ⟨q, 0, none⟩), .int .i64 i] w (StrikePost 87 89 layR q g L i w) := by
  have hlt : i < L.length := (List.getElem?_eq_some_iff.1 hx).1
  have hi : isP L i = true := by unfold isP; exact decide_eq_true (by omega)
  have HE := Lib.hid (show strikeI L i = 1000 ∧ strikeE L i = 0 ∧ strikeL L i = L.set i (struck ⟨ro, 1000, s, p⟩) by
    unfold strikeI strikeE strikeL
    rw [hi, if_pos rfl, if_pos rfl, if_pos rfl, prA_of (who := (i : Int)) (by rw [Int.toNat_natCast]; exact hx), Int.toNat_natCast, upd_some hx]
    exact ⟨by dsimp only; omega, rfl, rfl⟩)
  have HN := Lib.hid (hi ▸ is_any F i)
  have HF := Lib.hid F
  have hfit := F.fit _ (List.mem_of_getElem? hx)
  have c1 := F.cell hx 1 _ rfl
  have c2 := F.cell hx 2 _ rfl
  have c3 := F.cell hx 3 _ rfl
  have HX := Lib.hid hx
  have hg := F.ltg
  have z := F.frozen
  have hne := F.ne
  obtain ⟨cap, hst0⟩ := F.st
  have c := kb_cell hst0
  have HS0 := Lib.hid hst0
  have k1 : (0 : Int) ≤ 1000 := hfit.k1
  have k2 : (1000 : Int) ≤ 1000 := hfit.k2
  have hS : okS s = true := hfit.s
  have hl := Lib.hid hlt
  have hh := F.hi
  dsimp only at c1 c2 c3
  have HS := Lib.hid (show okS s = true ∧ badE s = 0 from ⟨hS, by unfold badE; rw [hS]; rfl⟩)
  clear hi F hfit hx hS hst0
  have cq := c 0
  generalize hn : L.length = n at *
  clear hn
  go_enter Try.func56, Try.ntmps56
  go_wp2_with (go_at_call 62; (with_reducible refine (HN.out).mono ?_); rintro e w1 ⟨rfl, rfl⟩)
  go_region
  have F2 := PX.below (RP.strikes HF.out HX.out (k := 1000) (by omega) (by omega)) (bl_drew (Below.refl _ _))
  have hx2 : (L.set i ⟨ro, 1000, s, p⟩)[i]? = some ⟨ro, 1000, s, p⟩ := by rw [List.getElem?_set_self (List.getElem?_eq_some_iff.1 HX.out).1]
  have K2 : Keep (fun b => b = g) w (w.setCell ⟨g, i * 4 + 1, none⟩ (.int .i64 (1000))).drew := (Keep.set (S := fun b => b = g) (p := ⟨g, i * 4 + 1, none⟩) (Keep.refl _ _) (fun _ => rfl) _).drew
  have d2 := F2.cell hx2 2 _ rfl
  have d3 := F2.cell hx2 3 _ rfl
  have B2 := K2.kb HS0.out (fun h => hne h)
  have e0 := kb_cell B2
  have g2 := F2.ltg
  generalize (World.setCell w ⟨g, i * 4 + 1, none⟩ (Value.int .i64 (1000))).drew = w2 at *
  have H2 := Lib.hid (And.intro F2 (And.intro K2 B2))
  clear c c1 c2 c3 cq z F2 K2 B2 HN
  go_wp2_with fail
  refine (rBad_any s p w2).mono ?_
  rintro e w3 ⟨r, rfl, hr, hrl, hb2⟩
  rw [HS.out.2]
  go_wp2_with fail
  have F3 := PX.below H2.out.1 hb2
  have K3 := (Keep.then_below H2.out.2.1 hb2).alloc (.cells #[.int .i64 (badS s), .float .f64 r] 33)
  have B3 := kb_alloc (kb_below hb2 H2.out.2.2) (.cells #[.int .i64 (badS s), .float .f64 r] 33)
  have F4 := F3.below (bl_alloc (Below.refl _ _) (.cells #[.int .i64 (badS s), .float .f64 r] 33))
  have N3 : (w3.alloc (.cells #[.int .i64 (badS s), .float .f64 r] 33)).heap[w3.heap.size]? = some _ := kb_new rfl _
  generalize w3.alloc (.cells #[.int .i64 (badS s), .float .f64 r] 33) = w4 at *
  generalize w3.heap.size = b at *
  have m0 := (kb_cell N3 0).trans rfl
  have m1 := (kb_cell N3 1).trans rfl
  have e4 := (kb_cell B3 0).trans rfl
  have a2 := F4.cell hx2 2 _ rfl
  have a3 := F4.cell hx2 3 _ rfl
  have z := F4.frozen
  have g4 := F4.ltg
  have F5 := PX.below (RP.merit F4 hx2 (okS_bad HS.out.1) hrl) (bl_drew (Below.refl _ _))
  rw [set_set] at F5
  have K5 := ((K3.set (p := ⟨g, i * 4 + 2, none⟩) (fun _ => rfl) (.int .i64 (badS s))).set (p := ⟨g, i * 4 + 2 + 1, none⟩) (fun _ => rfl) (.float .f64 r)).drew
  have B5 := kb_drew (kb_far (kb_far B3 (p := ⟨g, i * 4 + 2, none⟩) (fun h => hne h) (.int .i64 (badS s))) (p := ⟨g, i * 4 + 2 + 1, none⟩) (fun h => hne h) (.float .f64 r))
  have HZ := Lib.hid (And.intro F5 (And.intro K5 hr))
  have x5 := F5.cell (show (L.set i ⟨ro, 1000, badS s, r⟩)[i]? = some ⟨ro, 1000, badS s, r⟩ by rw [List.getElem?_set_self (List.getElem?_eq_some_iff.1 HX.out).1]) 1 _ rfl
  have q5 := (kb_cell B5 0).trans rfl
  clear F3 K3 B3 F4 N3 F5 K5 B5 H2 d2 d3 e0 g2 hb2 hr hrl
  go_region
  go_wp2
  exact bodyPost_ret (v := .tuple #[.int .i64 (1000), .int .i64 0]) (by simp [results, Try.results56, go_sem]) rfl ⟨_, by rw [HE.out.1, HE.out.2.1], by rw [HE.out.2.2]; exact (Alk.refl L).set i ⟨rfl, (by simp only [struck]; omega), rfl, HZ.out.2.2⟩, HZ.out.1, HZ.out.2.1⟩

theorem rStrike_any {w : World} {q g : Nat} {L : List Pr} (F : RP w q g L) (who : Int) : Calls Try.prog 56 #[.pointer (some ⟨q, 0, none⟩), .int .i64 who] w (StrikePost 87 89 layR q g L who w) := by
  cases hi : isP L who
  · exact rStrike_no F who hi
  · obtain ⟨i, rfl, hlt, hx⟩ := isP_nat hi
    have hf := F.fit _ (List.mem_of_getElem? hx)
    generalize prA L (i : Int) = x at *
    obtain ⟨ro, st, s, p⟩ := x
    have k2 : st ≤ 1000 := hf.k2
    by_cases h : st + 1 < 1000
    · exact rStrike_lt F i ro st s p hx h
    · rcases (show st = 999 ∨ st = 1000 by omega) with rfl | rfl
      · exact rStrike_999 F i ro s p hx
      · exact rStrike_1000 F i ro s p hx

set_option maxRecDepth 100000 in
set_option maxHeartbeats 4000000 in
theorem rPraise_er {w : World} {q g : Nat} {L : List Pr} (F : RP w q g L) (i : Nat) (ro st s : Int) (p : Nat) (t : Int) (hx : L[i]? = some ⟨ro, st, s, p⟩) (hG : okG s t = false) : Calls Try.prog 57 #[.pointer (some ⟨q, 0, none⟩), .int .i64 i, .int .i64 t] w (PraisePost 87 89 layR q g L i t w) := by
  have hlt : i < L.length := (List.getElem?_eq_some_iff.1 hx).1
  have hi : isP L i = true := by unfold isP; exact decide_eq_true (by omega)
  have hq : goodE s t = 3 := by unfold goodE; rw [hG]; rfl
  have HE := Lib.hid (show praiseE L i t = 3 ∧ praiseL L i t = L by
    unfold praiseE praiseL
    rw [hi, if_pos rfl, prA_of (who := (i : Int)) (by rw [Int.toNat_natCast]; exact hx), Int.toNat_natCast, upd_some hx]
    dsimp only
    rw [hG]
    exact ⟨hq, rfl⟩)
  have HN := Lib.hid (hi ▸ is_any F i)
  have HF := Lib.hid F
  have c2 := F.cell hx 2 _ rfl
  have c3 := F.cell hx 3 _ rfl
  have HX := Lib.hid hx
  have HG := Lib.hid hG
  have hg := F.ltg
  have hne := F.ne
  obtain ⟨cap, hst0⟩ := F.st
  have c := kb_cell hst0
  have HS0 := Lib.hid hst0
  have hh := F.hi
  dsimp only at c2 c3
  clear hi F hx hst0 hG
  generalize hn : L.length = n at *
  clear hn
  go_enter Try.func57, Try.ntmps57
  go_wp2_with (go_at_call 62; (with_reducible refine (HN.out).mono ?_); rintro e w1 ⟨rfl, rfl⟩)
  refine (rGood_any s p t w).mono ?_
  rintro e w3 ⟨r, rfl, hr, hrl, hb2⟩
  rw [hq]
  go_wp2
  go_ret
  exact ⟨L, ret_int HE.out.1.symm, by rw [HE.out.2]; exact Alk.refl _, HF.out.below (bl_alloc hb2 _), (Keep.of_below hb2).alloc _⟩

set_option maxRecDepth 100000 in
set_option maxHeartbeats 4000000 in
theorem rPraise_ok {w : World} {q g : Nat} {L : List Pr} (F : RP w q g L) (i : Nat) (ro st s : Int) (p : Nat) (t : Int) (hx : L[i]? = some ⟨ro, st, s, p⟩) (hG : okG s t = true) : Calls Try.prog 57 #[.pointer (some ⟨q, 0, none⟩), .int .i64 i, .int .i64 t] w (PraisePost 87 89 layR q g L i t w) := by
  have hlt : i < L.length := (List.getElem?_eq_some_iff.1 hx).1
  have hi : isP L i = true := by unfold isP; exact decide_eq_true (by omega)
  have hq : goodE s t = 0 := by unfold goodE; rw [hG]; rfl
  have HE := Lib.hid (show praiseE L i t = 0 ∧ praiseL L i t = L.set i (praised t ⟨ro, st, s, p⟩) by
    unfold praiseE praiseL
    rw [hi, if_pos rfl, prA_of (who := (i : Int)) (by rw [Int.toNat_natCast]; exact hx), Int.toNat_natCast, upd_some hx]
    dsimp only
    rw [hG]
    exact ⟨hq, rfl⟩)
  have HN := Lib.hid (hi ▸ is_any F i)
  have HF := Lib.hid F
  have c2 := F.cell hx 2 _ rfl
  have c3 := F.cell hx 3 _ rfl
  have HX := Lib.hid hx
  have HG := Lib.hid hG
  have hg := F.ltg
  have hne := F.ne
  obtain ⟨cap, hst0⟩ := F.st
  have c := kb_cell hst0
  have HS0 := Lib.hid hst0
  have hh := F.hi
  dsimp only at c2 c3
  clear hi F hx hst0 hG
  generalize hn : L.length = n at *
  clear hn
  go_enter Try.func57, Try.ntmps57
  go_wp2_with (go_at_call 62; (with_reducible refine (HN.out).mono ?_); rintro e w1 ⟨rfl, rfl⟩)
  refine (rGood_any s p t w).mono ?_
  rintro e w3 ⟨r, rfl, hr, hrl, hb2⟩
  rw [hq]
  go_wp2_with fail
  have F3 := PX.below HF.out hb2
  have K3 := (Keep.of_below (S := fun b => b = g) hb2).alloc (.cells #[.int .i64 (goodS s t), .float .f64 r] 33)
  have B3 := kb_alloc (kb_below hb2 HS0.out) (.cells #[.int .i64 (goodS s t), .float .f64 r] 33)
  have F4 := F3.below (bl_alloc (Below.refl _ _) (.cells #[.int .i64 (goodS s t), .float .f64 r] 33))
  have N3 : (w3.alloc (.cells #[.int .i64 (goodS s t), .float .f64 r] 33)).heap[w3.heap.size]? = some _ := kb_new rfl _
  generalize w3.alloc (.cells #[.int .i64 (goodS s t), .float .f64 r] 33) = w4 at *
  generalize w3.heap.size = b at *
  have m0 := (kb_cell N3 0).trans rfl
  have m1 := (kb_cell N3 1).trans rfl
  have e4 := (kb_cell B3 0).trans rfl
  have a2 := F4.cell HX.out 2 _ rfl
  have a3 := F4.cell HX.out 3 _ rfl
  have z := F4.frozen
  have g4 := F4.ltg
  have F5 := PX.below (RP.merit F4 HX.out (okS_good' HG.out) hrl) (bl_drew (Below.refl _ _))
  have K5 := ((K3.set (p := ⟨g, i * 4 + 2, none⟩) (fun _ => rfl) (.int .i64 (goodS s t))).set (p := ⟨g, i * 4 + 2 + 1, none⟩) (fun _ => rfl) (.float .f64 r)).drew
  have HZ := Lib.hid (And.intro F5 (And.intro K5 hr))
  clear F3 K3 B3 F4 N3 F5 K5 c2 c3 c hb2 hr hrl
  go_region
  go_wp2
  go_ret
  exact ⟨_, ret_int HE.out.1.symm, by rw [HE.out.2]; exact (Alk.refl L).set i ⟨rfl, rfl, rfl, HZ.out.2.2⟩, HZ.out.1, HZ.out.2.1⟩

theorem rPraise_any {w : World} {q g : Nat} {L : List Pr} (F : RP w q g L) (who t : Int) : Calls Try.prog 57 #[.pointer (some ⟨q, 0, none⟩), .int .i64 who, .int .i64 t] w (PraisePost 87 89 layR q g L who t w) := by
  cases hi : isP L who
  · exact rPraise_no F who t hi
  · obtain ⟨i, rfl, hlt, hx⟩ := isP_nat hi
    generalize prA L (i : Int) = x at *
    obtain ⟨ro, st, s, p⟩ := x
    cases hG : okG s t
    · exact rPraise_er F i ro st s p t hx hG
    · exact rPraise_ok F i ro st s p t hx hG
end Go.Proofs.Ytlnhofpjeinadaa
