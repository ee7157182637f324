/- The walks of package peers: Strike, Praise. -/
import Derived.Test.YtlnhofpjeinadaaPee10
import Derived.Test.YtlnhofpjeinadaaSco2
namespace Go.Proofs.Ytlnhofpjeinadaa
set_option linter.unusedSimpArgs false
set_option linter.unusedVariables false
open Go.RowKit Go.Proofs.Ytlnhofpjeinadaa.Pc Go.Shelf BigFrame
attribute [local go_sem] run_store_float

set_option maxHeartbeats 400000 in
theorem turn_ok {w : World} {g o : Nat} {u0 u1 : Value} (h0 : w.cell? ⟨g, o, none⟩ = some u0) (h1 : w.cell? ⟨g, o + 1, none⟩ = some u1) (z : ∀ i, w.frozen? ⟨g, i, none⟩ = false) (hg : g < w.heap.size) (s : Int) (p : Nat) :
    Calls Try.prog 35 #[.pointer (some ⟨g, o, none⟩), .agg #[.int .i64 s, .float .f64 p], .int .i64 0] w fun e w' => e = .returned (.int .i64 0) ∧ ((w.setCell ⟨g, o, none⟩ (.int .i64 s)).setCell ⟨g, o + 1, none⟩ (.float .f64 p)).alloc (.cells #[.int .i64 s, .float .f64 p] 33) = w' := by
  go_enter Try.func35, Try.ntmps35
  go_wp2
  go_ret
  exact ⟨rfl, rfl⟩
set_option maxHeartbeats 400000 in
theorem turn_no (w : World) (a : Value) (s : Int) (p : Nat) (er : Int) (h : er ≠ 0) :
    Calls Try.prog 35 #[a, .agg #[.int .i64 s, .float .f64 p], .int .i64 er] w fun e w' => e = .returned (.int .i64 er) ∧ Below w.heap.size w w' := by
  have hd : (er == 0) = false := by simp [h]
  clear h
  go_enter Try.func35, Try.ntmps35
  go_wp2
  go_ret
  exact ⟨rfl, by (repeat (with_reducible (first | exact Below.refl _ _ | assumption | refine bl_alloc ?_ _ | refine bl_drew ?_ | refine bl_drewN ?_ _ | (refine bl_set ?_ ?_ _; (focus (first | (simp; done) | (simp; omega) | omega))) | refine bl_then ?_ (by assumption))))⟩

theorem set_set {α : Type} (L : List α) (i : Nat) (a b : α) : (L.set i a).set i b = L.set i b := by simp
theorem PP.merit {w : World} {q g : Nat} {L : List Pr} (h : PP w q g L) {i : Nat} {x : Pr} (hx : L[i]? = some x) {s : Int} {p : Nat} (hs : okS s = true) (hp : p < 18446744073709551616) :
    PP ((w.setCell ⟨g, i * 4, none⟩ (.int .i64 s)).setCell ⟨g, i * 4 + 1, none⟩ (.float .f64 p)) q g (L.set i { x with s := s, p := p }) := by
  have hf := h.fit x (List.mem_of_getElem? hx)
  have h1 := h.set (j := 0) (x' := { x with s := s }) hx layP_len (by omega) rfl ⟨hf.r1, hf.r2, hf.k1, hf.k2, hs, hf.p⟩
  have hl := (List.getElem?_eq_some_iff.1 hx).1
  have h2 := h1.set (j := 1) (x := { x with s := s }) (x' := { x with s := s, p := p }) (by rw [List.getElem?_set_self hl]) layP_len (by omega) rfl ⟨hf.r1, hf.r2, hf.k1, hf.k2, hs, hp⟩
  rw [set_set] at h2
  exact h2
theorem PP.strikes {w : World} {q g : Nat} {L : List Pr} (h : PP w q g L) {i : Nat} {x : Pr} (hx : L[i]? = some x) {k : Int} (h1 : 0 ≤ k) (h2 : k ≤ 1000) :
    PP (w.setCell ⟨g, i * 4 + 3, none⟩ (.int .i64 k)) q g (L.set i { x with strikes := k }) := by
  have hf := h.fit x (List.mem_of_getElem? hx)
  exact h.set (j := 3) hx layP_len (by omega) rfl ⟨hf.r1, hf.r2, h1, h2, hf.s, hf.p⟩
theorem min_k {k : Int} (h1 : 0 ≤ k) (h2 : k ≤ 1000) : (if IntKind.i64.wrap (k + 1) < 1000 then IntKind.i64.wrap (k + 1) else 1000) = min 1000 (k + 1) := by
  rw [show IntKind.i64.wrap (k + 1) = k + 1 by rw [IntKind.wrap_i64]; omega]
  omega
theorem okS_bad {s : Int} (h : okS s = true) : okS (badS s) = true := by
  obtain ⟨h1, h2⟩ := okS_yes h
  unfold badS
  rw [h, if_pos rfl]
  unfold upS okS
  simp
  omega
theorem okS_good {s t : Int} (h : okS s = true) : okS (goodS s t) = true := by
  obtain ⟨h1, h2⟩ := okS_yes h
  unfold goodS
  split
  · unfold upS okS
    simp
    omega
  · decide
def strikeE (L : List Pr) (who : Int) : Int := if isP L who then 0 else 10
/-- What Strike leaves. -/
def StrikePost (T1 T2 : TypeId) (lay : Pr → List Value) (q g : Nat) (L : List Pr) (who : Int) (w : World) (e : Ending) (w' : World) : Prop :=
  ∃ L', e = .returned (.tuple #[.int .i64 (strikeI L who), .int .i64 (strikeE L who)]) ∧ Alk L' (strikeL L who) ∧ PX T1 T2 lay w' q g L' ∧ Keep (fun b => b = g) w w'

set_option maxRecDepth 100000 in
set_option maxHeartbeats 4000000 in
theorem Strike_any {w : World} {q g : Nat} {L : List Pr} (F : PP w q g L) (who : Int) : Calls Try.prog 11 #[.pointer (some ⟨q, 0, none⟩), .int .i64 who] w (StrikePost 80 71 layP q g L who w) := by
  cases hi : isP L who
  · have HE := Lib.hid (show strikeI L who = 0 ∧ strikeE L who = 10 ∧ strikeL L who = L by unfold strikeI strikeE strikeL; rw [hi]; exact ⟨rfl, rfl, rfl⟩)
    have HN := Lib.hid (at_no F who hi)
    have HF := Lib.hid F
    clear hi F
    go_enter Try.func11, Try.ntmps11
    go_wp2_with (first | (go_at_call 32; (with_reducible refine (HN.out).mono ?_); rintro e w1 ⟨rfl, rfl⟩) | (go_at_call 33; (with_reducible refine (none_no HF.out).mono ?_); rintro e w1 ⟨rfl, rfl⟩))
    exact bodyPost_ret (v := .tuple #[.int .i64 0, .int .i64 10]) (by simp [results, Try.results11, go_sem]) rfl ⟨L, by rw [HE.out.1, HE.out.2.1], by rw [HE.out.2.2]; exact Alk.refl _, HF.out, Keep.refl _ _⟩
  · obtain ⟨i, rfl, hlt, hx⟩ := isP_nat hi
    have HE := Lib.hid (show strikeI L i = min 1000 ((prA L i).strikes + 1) ∧ strikeE L i = 0 ∧ strikeL L i = L.set i (struck (prA L i)) by unfold strikeI strikeE strikeL; rw [hi]; exact ⟨rfl, rfl, by rw [if_pos rfl, Int.toNat_natCast, upd_some hx]⟩)
    have HN := Lib.hid (at_yes F i hlt)
    have HF := Lib.hid F
    have hfit := F.fit _ (List.mem_of_getElem? hx)
    have cx := F.cell hx 3 _ rfl
    have c0 := F.cell0 hx _ rfl
    have c1 := F.cell hx 1 _ rfl
    have HX := Lib.hid hx
    have hg := F.ltg
    have z := F.frozen
    have hk := min_k hfit.k1 hfit.k2
    generalize prA L i = x at *
    obtain ⟨ro, st, s, p⟩ := x
    have k1 : 0 ≤ st := hfit.k1
    have k2 : st ≤ 1000 := hfit.k2
    have hS : okS s = true := hfit.s
    have hl := Lib.hid hlt
    dsimp only at cx c0 c1 HE
    clear hi F hfit hx hk
    have HS := Lib.hid (show okS s = true ∧ badE s = 0 from ⟨hS, by unfold badE; rw [hS]; rfl⟩)
    clear hS
    by_cases hst : st + 1 < 1000
    · have hm : min 1000 (st + 1) = st + 1 := by omega
      rw [hm] at HE
      clear hm
      go_enter Try.func11, Try.ntmps11
      go_wp2_with (first | (go_at_call 32; (with_reducible refine (HN.out).mono ?_); rintro e w1 ⟨rfl, rfl⟩) | (go_at_call 33; (with_reducible refine (none_no HF.out).mono ?_); rintro e w1 ⟨rfl, rfl⟩))
      have F2 := PP.strikes HF.out HX.out (k := st + 1) (by omega) (by omega)
      have hx2 : (L.set i ⟨ro, st + 1, s, p⟩)[i]? = some ⟨ro, st + 1, s, p⟩ := by rw [List.getElem?_set_self hl.out]
      have K2 : Keep (fun b => b = g) w (w.setCell ⟨g, i * 4 + 3, none⟩ (.int .i64 (st + 1))) := Keep.set (S := fun b => b = g) (p := ⟨g, i * 4 + 3, none⟩) (Keep.refl _ _) (fun _ => rfl) _
      refine (Bad_any s p _).mono ?_
      rintro e w2 ⟨r, rfl, hr, hrl, hb2⟩
      rw [HS.out.2]
      have F3 := PX.below F2 hb2
      have K3 := Keep.then_below K2 hb2
      have d0 := F3.cell0 hx2 _ rfl
      have d1 := F3.cell hx2 1 _ rfl
      have F4 := PX.below (PP.merit F3 hx2 (okS_bad HS.out.1) hrl) (bl_alloc (Below.refl _ _) (.cells #[.int .i64 (badS s), .float .f64 r] 33))
      have d3 := PX.cell F4 (show (((L.set i ⟨ro, st + 1, s, p⟩).set i ⟨ro, st + 1, badS s, r⟩)[i]? = some ⟨ro, st + 1, badS s, r⟩) by rw [List.getElem?_set_self (by rw [List.length_set]; exact hl.out)]) 3 _ rfl
      rw [set_set] at F4
      have K4 := ((K3.set (p := ⟨g, i * 4, none⟩) (fun _ => rfl) (.int .i64 (badS s))).set (p := ⟨g, i * 4 + 1, none⟩) (fun _ => rfl) (.float .f64 r)).alloc (.cells #[.int .i64 (badS s), .float .f64 r] 33)
      have HT := Lib.hid (turn_ok d0 d1 F3.frozen F3.ltg (badS s) r)
      have H4 := Lib.hid (And.intro F4 (And.intro K4 hr))
      clear F2 hx2 K2 F3 K3 F4 K4 d0 d1 cx c0 c1 z hrl hr hb2
      go_wp2_with fail
      refine HT.out.mono ?_
      rintro e w3 ⟨rfl, rfl⟩
      go_wp2
      exact bodyPost_ret (v := .tuple #[.int .i64 (st + 1), .int .i64 0]) (by simp [results, Try.results11, go_sem]) rfl ⟨_, by rw [HE.out.1, HE.out.2.1], by rw [HE.out.2.2]; exact (Alk.refl L).set i ⟨rfl, by simp [struck]; omega, rfl, H4.out.2.2⟩, H4.out.1, H4.out.2.1⟩
    · rcases (show st = 999 ∨ st = 1000 by omega) with rfl | rfl
      · have hm : min 1000 ((999 : Int) + 1) = 1000 := by decide
        rw [hm] at HE
        clear hm
        go_enter Try.func11, Try.ntmps11
        go_wp2_with (first | (go_at_call 32; (with_reducible refine (HN.out).mono ?_); rintro e w1 ⟨rfl, rfl⟩) | (go_at_call 33; (with_reducible refine (none_no HF.out).mono ?_); rintro e w1 ⟨rfl, rfl⟩))
        have F2 := PP.strikes HF.out HX.out (k := 1000) (by omega) (by omega)
        have hx2 : (L.set i ⟨ro, 1000, s, p⟩)[i]? = some ⟨ro, 1000, s, p⟩ := by rw [List.getElem?_set_self hl.out]
        have K2 : Keep (fun b => b = g) w (w.setCell ⟨g, i * 4 + 3, none⟩ (.int .i64 (1000))) := Keep.set (S := fun b => b = g) (p := ⟨g, i * 4 + 3, none⟩) (Keep.refl _ _) (fun _ => rfl) _
        refine (Bad_any s p _).mono ?_
        rintro e w2 ⟨r, rfl, hr, hrl, hb2⟩
        rw [HS.out.2]
        have F3 := PX.below F2 hb2
        have K3 := Keep.then_below K2 hb2
        have d0 := F3.cell0 hx2 _ rfl
        have d1 := F3.cell hx2 1 _ rfl
        have F4 := PX.below (PP.merit F3 hx2 (okS_bad HS.out.1) hrl) (bl_alloc (Below.refl _ _) (.cells #[.int .i64 (badS s), .float .f64 r] 33))
        have d3 := PX.cell F4 (show (((L.set i ⟨ro, 1000, s, p⟩).set i ⟨ro, 1000, badS s, r⟩)[i]? = some ⟨ro, 1000, badS s, r⟩) by rw [List.getElem?_set_self (by rw [List.length_set]; exact hl.out)]) 3 _ rfl
        rw [set_set] at F4
        have K4 := ((K3.set (p := ⟨g, i * 4, none⟩) (fun _ => rfl) (.int .i64 (badS s))).set (p := ⟨g, i * 4 + 1, none⟩) (fun _ => rfl) (.float .f64 r)).alloc (.cells #[.int .i64 (badS s), .float .f64 r] 33)
        have HT := Lib.hid (turn_ok d0 d1 F3.frozen F3.ltg (badS s) r)
        have H4 := Lib.hid (And.intro F4 (And.intro K4 hr))
        clear F2 hx2 K2 F3 K3 F4 K4 d0 d1 cx c0 c1 z hrl hr hb2
        go_wp2_with fail
        refine HT.out.mono ?_
        rintro e w3 ⟨rfl, rfl⟩
        go_wp2
        exact bodyPost_ret (v := .tuple #[.int .i64 (1000), .int .i64 0]) (by simp [results, Try.results11, go_sem]) rfl ⟨_, by rw [HE.out.1, HE.out.2.1], by rw [HE.out.2.2]; exact (Alk.refl L).set i ⟨rfl, (by simp only [struck]; omega), rfl, H4.out.2.2⟩, H4.out.1, H4.out.2.1⟩
      · have hm : min 1000 ((1000 : Int) + 1) = 1000 := by decide
        rw [hm] at HE
        clear hm
        go_enter Try.func11, Try.ntmps11
        go_wp2_with (first | (go_at_call 32; (with_reducible refine (HN.out).mono ?_); rintro e w1 ⟨rfl, rfl⟩) | (go_at_call 33; (with_reducible refine (none_no HF.out).mono ?_); rintro e w1 ⟨rfl, rfl⟩))
        have F2 := PP.strikes HF.out HX.out (k := 1000) (by omega) (by omega)
        have hx2 : (L.set i ⟨ro, 1000, s, p⟩)[i]? = some ⟨ro, 1000, s, p⟩ := by rw [List.getElem?_set_self hl.out]
        have K2 : Keep (fun b => b = g) w (w.setCell ⟨g, i * 4 + 3, none⟩ (.int .i64 (1000))) := Keep.set (S := fun b => b = g) (p := ⟨g, i * 4 + 3, none⟩) (Keep.refl _ _) (fun _ => rfl) _
        refine (Bad_any s p _).mono ?_
        rintro e w2 ⟨r, rfl, hr, hrl, hb2⟩
        rw [HS.out.2]
        have F3 := PX.below F2 hb2
        have K3 := Keep.then_below K2 hb2
        have d0 := F3.cell0 hx2 _ rfl
        have d1 := F3.cell hx2 1 _ rfl
        have F4 := PX.below (PP.merit F3 hx2 (okS_bad HS.out.1) hrl) (bl_alloc (Below.refl _ _) (.cells #[.int .i64 (badS s), .float .f64 r] 33))
        have d3 := PX.cell F4 (show (((L.set i ⟨ro, 1000, s, p⟩).set i ⟨ro, 1000, badS s, r⟩)[i]? = some ⟨ro, 1000, badS s, r⟩) by rw [List.getElem?_set_self (by rw [List.length_set]; exact hl.out)]) 3 _ rfl
        rw [set_set] at F4
        have K4 := ((K3.set (p := ⟨g, i * 4, none⟩) (fun _ => rfl) (.int .i64 (badS s))).set (p := ⟨g, i * 4 + 1, none⟩) (fun _ => rfl) (.float .f64 r)).alloc (.cells #[.int .i64 (badS s), .float .f64 r] 33)
        have HT := Lib.hid (turn_ok d0 d1 F3.frozen F3.ltg (badS s) r)
        have H4 := Lib.hid (And.intro F4 (And.intro K4 hr))
        clear F2 hx2 K2 F3 K3 F4 K4 d0 d1 cx c0 c1 z hrl hr hb2
        go_wp2_with fail
        refine HT.out.mono ?_
        rintro e w3 ⟨rfl, rfl⟩
        go_wp2
        exact bodyPost_ret (v := .tuple #[.int .i64 (1000), .int .i64 0]) (by simp [results, Try.results11, go_sem]) rfl ⟨_, by rw [HE.out.1, HE.out.2.1], by rw [HE.out.2.2]; exact (Alk.refl L).set i ⟨rfl, (by simp only [struck]; omega), rfl, H4.out.2.2⟩, H4.out.1, H4.out.2.1⟩
end Go.Proofs.Ytlnhofpjeinadaa
