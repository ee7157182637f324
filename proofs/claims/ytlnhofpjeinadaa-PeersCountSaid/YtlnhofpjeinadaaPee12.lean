/- The walks of package peers: Praise. -/
import Derived.Test.YtlnhofpjeinadaaPee11
namespace Go.Proofs.Ytlnhofpjeinadaa
set_option linter.unusedSimpArgs false
set_option linter.unusedVariables false
open Go.RowKit Go.Proofs.Ytlnhofpjeinadaa.Pc Go.Shelf BigFrame
attribute [local go_sem] run_store_float

def praiseE (L : List Pr) (who t : Int) : Int := if isP L who then goodE (prA L who).s t else 10
theorem praiseE_alk {L R : List Pr} (h : Alk L R) (who t : Int) : praiseE L who t = praiseE R who t := by unfold praiseE; rw [isP_alk h, (prA_alk h who).s]
/-- What Praise leaves. -/
def PraisePost (T1 T2 : TypeId) (lay : Pr → List Value) (q g : Nat) (L : List Pr) (who t : Int) (w : World) (e : Ending) (w' : World) : Prop :=
  ∃ L', e = .returned (.int .i64 (praiseE L who t)) ∧ Alk L' (praiseL L who t) ∧ PX T1 T2 lay w' q g L' ∧ Keep (fun b => b = g) w w'
theorem okS_good' {s t : Int} (h : okG s t = true) : okS (goodS s t) = true := okS_good (okG_yes h).1

set_option maxRecDepth 100000 in
set_option maxHeartbeats 4000000 in
theorem Praise_any {w : World} {q g : Nat} {L : List Pr} (F : PP w q g L) (who t : Int) : Calls Try.prog 13 #[.pointer (some ⟨q, 0, none⟩), .int .i64 who, .int .i64 t] w (PraisePost 80 71 layP q g L who t w) := by
  cases hi : isP L who
  · have HE := Lib.hid (show praiseE L who t = 10 ∧ praiseL L who t = L by unfold praiseE praiseL; rw [hi]; exact ⟨rfl, rfl⟩)
    have HN := Lib.hid (at_no F who hi)
    have HF := Lib.hid F
    clear hi F
    go_enter Try.func13, Try.ntmps13
    go_wp2_with (first | (go_at_call 32; (with_reducible refine (HN.out).mono ?_); rintro e w1 ⟨rfl, rfl⟩) | (go_at_call 33; (with_reducible refine (none_no HF.out).mono ?_); rintro e w1 ⟨rfl, rfl⟩))
    go_ret
    exact ⟨L, ret_int HE.out.1.symm, by rw [HE.out.2]; exact Alk.refl _, HF.out, Keep.refl _ _⟩
  · obtain ⟨i, rfl, hlt, hx⟩ := isP_nat hi
    have hE : praiseE L i t = goodE (prA L i).s t := by unfold praiseE; rw [hi]; rfl
    have hL : praiseL L i t = if okG (prA L i).s t then L.set i (praised t (prA L i)) else L := by
      unfold praiseL
      rw [hi, Bool.true_and, Int.toNat_natCast, upd_some hx]
    have HN := Lib.hid (at_yes F i hlt)
    have HF := Lib.hid F
    have c0 := F.cell0 hx _ rfl
    have c1 := F.cell hx 1 _ rfl
    have HX := Lib.hid hx
    have hg := F.ltg
    have hl := Lib.hid hlt
    generalize prA L i = x at *
    obtain ⟨ro, st, s, p⟩ := x
    dsimp only at c0 c1 hE hL
    cases hG : okG s t
    · rw [hG] at hL
      have hE' : goodE s t = 3 := by unfold goodE; rw [hG]; rfl
      rw [hE'] at hE
      have HE := Lib.hid (And.intro hE hL)
      have hq : goodE s t = 3 := hE'
      clear hE hL hG hE' hi F hx hlt
      go_enter Try.func13, Try.ntmps13
      go_wp2_with (first | (go_at_call 32; (with_reducible refine (HN.out).mono ?_); rintro e w1 ⟨rfl, rfl⟩) | (go_at_call 33; (with_reducible refine (none_no HF.out).mono ?_); rintro e w1 ⟨rfl, rfl⟩))
      refine (Good_any s p t _).mono ?_
      rintro e w2 ⟨r, rfl, hr, hrl, hb2⟩
      rw [hq]
      go_wp2_with fail
      refine (turn_no w2 _ _ r 3 (by decide)).mono ?_
      rintro e w3 ⟨rfl, hb3⟩
      go_wp2
      go_ret
      exact ⟨L, ret_int HE.out.1.symm, by rw [HE.out.2]; exact Alk.refl _, HF.out.below (bl_then hb2 hb3), Keep.of_below (bl_then hb2 hb3)⟩
    · rw [hG, if_pos rfl] at hL
      have hE' : goodE s t = 0 := by unfold goodE; rw [hG]; rfl
      rw [hE'] at hE
      have HE := Lib.hid (And.intro hE hL)
      have hq : goodE s t = 0 := hE'
      have HG := Lib.hid hG
      clear hE hL hG hE' hi F hx hlt
      go_enter Try.func13, Try.ntmps13
      go_wp2_with (first | (go_at_call 32; (with_reducible refine (HN.out).mono ?_); rintro e w1 ⟨rfl, rfl⟩) | (go_at_call 33; (with_reducible refine (none_no HF.out).mono ?_); rintro e w1 ⟨rfl, rfl⟩))
      refine (Good_any s p t _).mono ?_
      rintro e w2 ⟨r, rfl, hr, hrl, hb2⟩
      rw [hq]
      have F3 := PX.below HF.out hb2
      have d0 := F3.cell0 HX.out _ rfl
      have d1 := F3.cell HX.out 1 _ rfl
      have F4 := PX.below (PP.merit F3 HX.out (okS_good' HG.out) hrl) (bl_alloc (Below.refl _ _) (.cells #[.int .i64 (goodS s t), .float .f64 r] 33))
      have K4 := (((Keep.of_below (S := fun b => b = g) hb2).set (p := ⟨g, i * 4, none⟩) (fun _ => rfl) (.int .i64 (goodS s t))).set (p := ⟨g, i * 4 + 1, none⟩) (fun _ => rfl) (.float .f64 r)).alloc (.cells #[.int .i64 (goodS s t), .float .f64 r] 33)
      have HT := Lib.hid (turn_ok d0 d1 F3.frozen F3.ltg (goodS s t) r)
      have H4 := Lib.hid (And.intro F4 (And.intro K4 hr))
      clear F3 F4 K4 d0 d1 c0 c1 hrl hr hb2
      go_wp2_with fail
      refine HT.out.mono ?_
      rintro e w3 ⟨rfl, rfl⟩
      go_wp2
      go_ret
      exact ⟨_, ret_int HE.out.1.symm, by rw [HE.out.2]; exact (Alk.refl L).set i ⟨rfl, rfl, rfl, H4.out.2.2⟩, H4.out.1, H4.out.2.1⟩
end Go.Proofs.Ytlnhofpjeinadaa
