/- The walks of package peers: Next, Fill, Move, Strike, Praise. -/
import Derived.Test.YtlnhofpjeinadaaPee7
namespace Go.Proofs.Ytlnhofpjeinadaa
set_option linter.unusedSimpArgs false
set_option linter.unusedVariables false
open Go.RowKit Go.Proofs.Ytlnhofpjeinadaa.Pc Go.Shelf BigFrame
attribute [local go_sem] run_store_float

theorem PX.kept {T1 T2 : TypeId} {lay : Pr → List Value} {w w' : World} {q g : Nat} {L : List Pr} (h : PX T1 T2 lay w q g L) (k : Below w.heap.size w w') : PX T1 T2 lay w' q g L ∧ Keep (fun b => b = g) w w' := ⟨h.below k, Keep.of_below k⟩
theorem PP.role {w : World} {q g : Nat} {L : List Pr} (h : PP w q g L) {i : Nat} {x : Pr} (hx : L[i]? = some x) {r : Int} (h1 : 1 ≤ r) (h2 : r ≤ 6) : PP (w.setCell ⟨g, i * 4 + 2, none⟩ (.int .i64 r)) q g (setR L i r) := by
  have hf := h.fit x (List.mem_of_getElem? hx)
  unfold setR
  rw [upd_some hx]
  exact h.set hx layP_len (by omega) rfl ⟨h1, h2, hf.k1, hf.k2, hf.s, hf.p⟩
theorem RP.role {w : World} {q g : Nat} {L : List Pr} (h : RP w q g L) {i : Nat} {x : Pr} (hx : L[i]? = some x) {r : Int} (h1 : 1 ≤ r) (h2 : r ≤ 6) : RP (w.setCell ⟨g, i * 4, none⟩ (.int .i64 r)) q g (setR L i r) := by
  have hf := h.fit x (List.mem_of_getElem? hx)
  unfold setR
  rw [upd_some hx]
  exact h.set (j := 0) hx layR_len (by omega) rfl ⟨h1, h2, hf.k1, hf.k2, hf.s, hf.p⟩
theorem keep_set {w w1 : World} {g i : Nat} {u : Value} (h : Below w.heap.size w w1) : Keep (fun b => b = g) w (w1.setCell ⟨g, i, none⟩ u) := Keep.set (S := fun b => b = g) (p := ⟨g, i, none⟩) (Keep.of_below h) (fun _ => rfl) u
theorem best_nat {L : List Pr} {role : Int} (h : 0 ≤ bestI L role) : ∃ (i : Nat) (x : Pr), bestI L role = i ∧ i < L.length ∧ L[i]? = some x := by
  obtain ⟨x, hx, _⟩ := best_at h
  exact ⟨_, x, (Int.toNat_of_nonneg h).symm, (List.getElem?_eq_some_iff.1 hx).1, hx⟩

set_option maxRecDepth 100000 in
set_option maxHeartbeats 2000000 in
theorem Next_any {w : World} {q g : Nat} {L : List Pr} (F : PP w q g L) : Calls Try.prog 17 #[.pointer (some ⟨q, 0, none⟩)] w fun e w' => e = .returned (.int .i64 (nextI L)) ∧ PP w' q g (nextL L) ∧ Keep (fun b => b = g) w w' := by
  by_cases h3 : 0 ≤ bestI L 3
  · have e1 : nextI L = -1 := by unfold nextI; rw [if_pos h3]
    have e2 : nextL L = L := by unfold nextL; rw [e1]; rfl
    rw [e1, e2]
    have HP := Lib.hid (Primary_any F)
    have HF := Lib.hid F
    generalize bestI L 3 = b at *
    clear F
    go_enter Try.func17, Try.ntmps17
    go_wp2_with (first | (go_at_call 33; (with_reducible refine (none_no HF.out).mono ?_); rintro e w1 ⟨rfl, rfl⟩) | (go_at_call 29; (with_reducible refine (HP.out).mono ?_); rintro e w1 ⟨rfl, hb1⟩; have hz1 := hb1.size))
    go_ret
    exact ⟨rfl, HF.out.kept hb1⟩
  · have hb3 : bestI L 3 = -1 := by have := bestI_bd L 3; omega
    have HP := Lib.hid (hb3 ▸ Primary_any F)
    have HF := Lib.hid F
    have e1 : nextI L = if 0 ≤ bestI L 2 then bestI L 2 else bestI L 1 := by unfold nextI; rw [if_neg h3]
    have E1 := Lib.hid e1
    have x0 : ∀ W : World, (Instr.index 76 (.agg #[.int .i64 2, .int .i64 1]) (.int .i64 0)).run Try.prog W = .ok (.int .i64 2) W := fun _ => by kernel_rfl
    have x1 : ∀ W : World, (Instr.index 76 (.agg #[.int .i64 2, .int .i64 1]) (.int .i64 1)).run Try.prog W = .ok (.int .i64 1) W := fun _ => by kernel_rfl
    clear F h3 hb3 e1
    go_enter Try.func17, Try.ntmps17
    go_wp2_with (first | (go_at_call 33; (with_reducible refine (none_no HF.out).mono ?_); rintro e w1 ⟨rfl, rfl⟩) | (go_at_call 29; (with_reducible refine (HP.out).mono ?_); rintro e w1 ⟨rfl, hb1⟩; have hz1 := hb1.size))
    go_loopw [4, 5, 14, 15, 16, 17, 18, 19, 20, 21, 22, 23, 24, 25, 26, 27, 28, 29, 30, 31] (fun _ _ s14 _ _ _ _ _ _ _ _ _ _ _ _ _ _ _ _ _ wr => ∃ k : Nat, k ≤ 2 ∧ s14 = .int .i64 k ∧ Below w.heap.size w wr ∧ Hid ((1 ≤ k → bestI L 2 < 0) ∧ (2 ≤ k → bestI L 1 < 0))) (fun _ _ s14 _ _ _ _ _ _ _ _ _ _ _ _ _ _ _ _ _ _ => 2 - (intOf s14).toNat)
    case atStart => exact ⟨0, by omega, rfl, hb1, ⟨fun h => by omega, fun h => by omega⟩⟩
    case round =>
      obtain ⟨k, hk, rfl, hnx, HH⟩ := hrel
      rcases (show k = 0 ∨ k = 1 ∨ k = 2 by omega) with rfl | rfl | rfl
      · by_cases hn : 0 ≤ bestI L 2
        · obtain ⟨i, x, hi, hlt, hx⟩ := best_nat hn
          have e2 : nextI L = i := by
            rw [E1.out, if_pos hn]; exact hi
          have e3 : nextL L = setR L i 3 := by unfold nextL; rw [e2, if_pos (by omega)]; rfl
          have E2 := Lib.hid e2
          have E3 := Lib.hid e3
          have HB := Lib.hid (fun W c1 c2 (F : PP W q g L) h1 h2 => hi ▸ best_any F 2 c1 c2 h1 h2)
          have HX := Lib.hid hx
          have hL := HF.out.hi
          clear e2 e3 hn hi hx HH
          go_wp2_with fail
          refine (of_any q 2 _).mono ?_
          rintro e w1 ⟨rfl, rfl⟩
          go_wp2_with fail
          refine (HB.out _ _ _ (HF.out.below (by (repeat (with_reducible (first | exact Below.refl _ _ | assumption | refine bl_alloc ?_ _ | refine bl_drew ?_ | refine bl_drewN ?_ _ | (refine bl_set ?_ ?_ _; (focus (first | (simp; done) | (simp; omega) | omega))) | refine bl_then ?_ (by assumption)))))) (kb_alloc (kb_new rfl _) _) (kb_new (by simp) _)).mono ?_
          rintro e w1 ⟨rfl, hb2⟩
          have hbw : Below w.heap.size w w1 := by (repeat (with_reducible (first | exact Below.refl _ _ | assumption | refine bl_alloc ?_ _ | refine bl_drew ?_ | refine bl_drewN ?_ _ | (refine bl_set ?_ ?_ _; (focus (first | (simp; done) | (simp; omega) | omega))) | refine bl_then ?_ (by assumption))))
          have F1 := HF.out.below hbw
          obtain ⟨cap, hst⟩ := F1.st
          have c := kb_cell hst
          have z := F1.frozen
          have cx := F1.cell HX.out 2 _ rfl
          have H1 := Lib.hid F1
          generalize L.length = n at *
          clear F1 hst
          go_wp2
          go_ret
          exact ⟨ret_int E2.out.symm, by rw [E3.out]; exact ⟨PP.role H1.out HX.out (by omega) (by omega), keep_set hbw⟩⟩
        · have hb : bestI L 2 = -1 := by have := bestI_bd L 2; omega
          have HB := Lib.hid (fun W c1 c2 (F : PP W q g L) h1 h2 => hb ▸ best_any F 2 c1 c2 h1 h2)
          have HN := Lib.hid (show bestI L 2 < 0 by omega)
          clear hn hb
          go_wp2_with fail
          refine (of_any q 2 _).mono ?_
          rintro e w1 ⟨rfl, rfl⟩
          go_wp2_with fail
          refine (HB.out _ _ _ (HF.out.below (by (repeat (with_reducible (first | exact Below.refl _ _ | assumption | refine bl_alloc ?_ _ | refine bl_drew ?_ | refine bl_drewN ?_ _ | (refine bl_set ?_ ?_ _; (focus (first | (simp; done) | (simp; omega) | omega))) | refine bl_then ?_ (by assumption)))))) (kb_alloc (kb_new rfl _) _) (kb_new (by simp) _)).mono ?_
          rintro e w1 ⟨rfl, hb2⟩
          go_wp2
          go_roundw
          case rel => exact ⟨1, by omega, by go_num, by (repeat (with_reducible (first | exact Below.refl _ _ | assumption | refine bl_alloc ?_ _ | refine bl_drew ?_ | refine bl_drewN ?_ _ | (refine bl_set ?_ ?_ _; (focus (first | (simp; done) | (simp; omega) | omega))) | refine bl_then ?_ (by assumption)))), ⟨fun _ => HN.out, fun h => by omega⟩⟩
          case measure => simp [intOf]
      · by_cases hn : 0 ≤ bestI L 1
        · obtain ⟨i, x, hi, hlt, hx⟩ := best_nat hn
          have e2 : nextI L = i := by
            rw [E1.out, if_neg (by have := HH.out.1 (by omega); omega)]; exact hi
          have e3 : nextL L = setR L i 3 := by unfold nextL; rw [e2, if_pos (by omega)]; rfl
          have E2 := Lib.hid e2
          have E3 := Lib.hid e3
          have HB := Lib.hid (fun W c1 c2 (F : PP W q g L) h1 h2 => hi ▸ best_any F 1 c1 c2 h1 h2)
          have HX := Lib.hid hx
          have hL := HF.out.hi
          clear e2 e3 hn hi hx HH
          go_wp2_with fail
          refine (of_any q 1 _).mono ?_
          rintro e w1 ⟨rfl, rfl⟩
          go_wp2_with fail
          refine (HB.out _ _ _ (HF.out.below (by (repeat (with_reducible (first | exact Below.refl _ _ | assumption | refine bl_alloc ?_ _ | refine bl_drew ?_ | refine bl_drewN ?_ _ | (refine bl_set ?_ ?_ _; (focus (first | (simp; done) | (simp; omega) | omega))) | refine bl_then ?_ (by assumption)))))) (kb_alloc (kb_new rfl _) _) (kb_new (by simp) _)).mono ?_
          rintro e w1 ⟨rfl, hb2⟩
          have hbw : Below w.heap.size w w1 := by (repeat (with_reducible (first | exact Below.refl _ _ | assumption | refine bl_alloc ?_ _ | refine bl_drew ?_ | refine bl_drewN ?_ _ | (refine bl_set ?_ ?_ _; (focus (first | (simp; done) | (simp; omega) | omega))) | refine bl_then ?_ (by assumption))))
          have F1 := HF.out.below hbw
          obtain ⟨cap, hst⟩ := F1.st
          have c := kb_cell hst
          have z := F1.frozen
          have cx := F1.cell HX.out 2 _ rfl
          have H1 := Lib.hid F1
          generalize L.length = n at *
          clear F1 hst
          go_wp2
          go_ret
          exact ⟨ret_int E2.out.symm, by rw [E3.out]; exact ⟨PP.role H1.out HX.out (by omega) (by omega), keep_set hbw⟩⟩
        · have hb : bestI L 1 = -1 := by have := bestI_bd L 1; omega
          have HB := Lib.hid (fun W c1 c2 (F : PP W q g L) h1 h2 => hb ▸ best_any F 1 c1 c2 h1 h2)
          have HN := Lib.hid (show bestI L 1 < 0 by omega)
          clear hn hb
          go_wp2_with fail
          refine (of_any q 1 _).mono ?_
          rintro e w1 ⟨rfl, rfl⟩
          go_wp2_with fail
          refine (HB.out _ _ _ (HF.out.below (by (repeat (with_reducible (first | exact Below.refl _ _ | assumption | refine bl_alloc ?_ _ | refine bl_drew ?_ | refine bl_drewN ?_ _ | (refine bl_set ?_ ?_ _; (focus (first | (simp; done) | (simp; omega) | omega))) | refine bl_then ?_ (by assumption)))))) (kb_alloc (kb_new rfl _) _) (kb_new (by simp) _)).mono ?_
          rintro e w1 ⟨rfl, hb2⟩
          go_wp2
          go_roundw
          case rel => exact ⟨2, by omega, by go_num, by (repeat (with_reducible (first | exact Below.refl _ _ | assumption | refine bl_alloc ?_ _ | refine bl_drew ?_ | refine bl_drewN ?_ _ | (refine bl_set ?_ ?_ _; (focus (first | (simp; done) | (simp; omega) | omega))) | refine bl_then ?_ (by assumption)))), ⟨fun _ => HH.out.1 (by omega), fun _ => HN.out⟩⟩
          case measure => simp [intOf]
      · have e2 : nextI L = -1 := by
          rw [E1.out, if_neg (by have := HH.out.1 (by omega); omega)]
          have := HH.out.2 (by omega); have := bestI_bd L 1; omega
        have e3 : nextL L = L := by unfold nextL; rw [e2]; rfl
        have E2 := Lib.hid e2
        have E3 := Lib.hid e3
        clear e2 e3 HH
        go_wp2
        go_ret
        exact ⟨ret_int E2.out.symm, by rw [E3.out]; exact HF.out.kept hnx⟩
end Go.Proofs.Ytlnhofpjeinadaa
