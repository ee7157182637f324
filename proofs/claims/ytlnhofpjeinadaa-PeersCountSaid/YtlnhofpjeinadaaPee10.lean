/- The walks of package peers: Move, Strike, Praise. -/
import Derived.Test.YtlnhofpjeinadaaPee9
namespace Go.Proofs.Ytlnhofpjeinadaa
set_option linter.unusedSimpArgs false
set_option linter.unusedVariables false
open Go.RowKit Go.Proofs.Ytlnhofpjeinadaa.Pc Go.Shelf BigFrame
attribute [local go_sem] run_store_float

/-- A row of the table. -/
def mayRow (r : Nat) : Array Value := (Array.range 7).map fun i => .bool (mayI ((r : Nat) : Int) ((i : Nat) : Int))
theorem may_row (r : Nat) (h : r < 7) (W : World) : (Instr.index 68 (.agg mayV) (.int .i64 r)).run Try.prog W = .ok (.agg (mayRow r)) W := by
  rcases (show r = 0 ∨ r = 1 ∨ r = 2 ∨ r = 3 ∨ r = 4 ∨ r = 5 ∨ r = 6 by omega) with rfl | rfl | rfl | rfl | rfl | rfl | rfl <;> kernel_rfl
theorem may_at (r c : Nat) (h : r < 7) (k : c < 7) (W : World) : (Instr.index 67 (.agg (mayRow r)) (.int .i64 c)).run Try.prog W = .ok (.bool (mayI r c)) W := by
  rcases (show c = 0 ∨ c = 1 ∨ c = 2 ∨ c = 3 ∨ c = 4 ∨ c = 5 ∨ c = 6 by omega) with rfl | rfl | rfl | rfl | rfl | rfl | rfl <;>
  rcases (show r = 0 ∨ r = 1 ∨ r = 2 ∨ r = 3 ∨ r = 4 ∨ r = 5 ∨ r = 6 by omega) with rfl | rfl | rfl | rfl | rfl | rfl | rfl <;> kernel_rfl

/-- What Move leaves. -/
def MovePost (T1 T2 : TypeId) (lay : Pr → List Value) (q g : Nat) (L : List Pr) (who role : Int) (w : World) (e : Ending) (w' : World) : Prop :=
  e = .returned (.int .i64 (moveE L who role)) ∧ PX T1 T2 lay w' q g (moveL L who role) ∧ Keep (fun b => b = g) w w'
theorem moveL_no {L : List Pr} {who role : Int} (h : moveE L who role ≠ 0) : moveL L who role = L := by unfold moveL; rw [if_neg h]
theorem PX.refl {T1 T2 : TypeId} {lay : Pr → List Value} {w : World} {q g : Nat} {L : List Pr} (h : PX T1 T2 lay w q g L) : PX T1 T2 lay w q g L ∧ Keep (fun b => b = g) w w := ⟨h, Keep.refl _ _⟩

set_option maxRecDepth 100000 in
set_option maxHeartbeats 4000000 in
theorem Move_any {w : World} {q g : Nat} {L : List Pr} (F : PP w q g L) (who role : Int) : Calls Try.prog 10 #[.pointer (some ⟨q, 0, none⟩), .int .i64 who, .int .i64 role] w (MovePost 80 71 layP q g L who role w) := by
  cases hi : isP L who
  · have e1 : moveE L who role = 10 := by unfold moveE; rw [hi]; rfl
    have HE := Lib.hid (And.intro e1 (moveL_no (L := L) (who := who) (role := role) (by rw [e1]; decide)))
    have HN := Lib.hid (at_no F who hi)
    have HF := Lib.hid F
    clear hi F e1
    go_enter Try.func10, Try.ntmps10
    go_wp2_with (first | (go_at_call 32; (with_reducible refine (HN.out).mono ?_); rintro e w1 ⟨rfl, rfl⟩) | (go_at_call 33; (with_reducible refine (none_no HF.out).mono ?_); rintro e w1 ⟨rfl, rfl⟩))
    go_ret
    exact ⟨ret_int HE.out.1.symm, by rw [HE.out.2]; exact HF.out.refl⟩
  · obtain ⟨i, rfl, hlt, hx⟩ := isP_nat hi
    have hE : moveE L i role = (if 1 ≤ role ∧ role ≤ 6 then (if mayI (prA L i).role role then (if role = 3 ∧ 0 ≤ bestI L 3 then 11 else 0) else 9) else 2) := by unfold moveE; rw [hi]; rfl
    have HN := Lib.hid (at_yes F i hlt)
    have HF := Lib.hid F
    have HP := Lib.hid (fun W (k : Below w.heap.size w W) => Primary_any (F.below k))
    have hfit := F.fit _ (List.mem_of_getElem? hx)
    have cx := F.cell hx 2 _ rfl
    have HX := Lib.hid hx
    have hg := F.ltg
    have r1 := hfit.r1
    have r2 := hfit.r2
    generalize prA L i = x at *
    by_cases h1 : role < 1
    · have e1 : moveE L i role = 2 := by rw [hE, if_neg (by omega)]
      have HE := Lib.hid (And.intro e1 (moveL_no (L := L) (who := i) (role := role) (by rw [e1]; decide)))
      clear hi F e1 hE hx hfit
      go_enter Try.func10, Try.ntmps10
      go_wp2_with (first | (go_at_call 32; (with_reducible refine (HN.out).mono ?_); rintro e w1 ⟨rfl, rfl⟩) | (go_at_call 33; (with_reducible refine (none_no HF.out).mono ?_); rintro e w1 ⟨rfl, rfl⟩))
      go_ret
      exact ⟨ret_int HE.out.1.symm, by rw [HE.out.2]; exact HF.out.refl⟩
    · by_cases h2 : 6 < role
      · have e1 : moveE L i role = 2 := by rw [hE, if_neg (by omega)]
        have HE := Lib.hid (And.intro e1 (moveL_no (L := L) (who := i) (role := role) (by rw [e1]; decide)))
        clear hi F e1 hE hx hfit
        go_enter Try.func10, Try.ntmps10
        go_wp2_with (first | (go_at_call 32; (with_reducible refine (HN.out).mono ?_); rintro e w1 ⟨rfl, rfl⟩) | (go_at_call 33; (with_reducible refine (none_no HF.out).mono ?_); rintro e w1 ⟨rfl, rfl⟩))
        go_ret
        exact ⟨ret_int HE.out.1.symm, by rw [HE.out.2]; exact HF.out.refl⟩
      · rw [if_pos (by omega)] at hE
        obtain ⟨r, hr⟩ : ∃ r : Nat, x.role = r := ⟨x.role.toNat, by omega⟩
        obtain ⟨c, rfl⟩ : ∃ c : Nat, role = c := ⟨role.toNat, by omega⟩
        have m1 := may_row r (by omega)
        have m2 := may_at r c (by omega) (by omega)
        rw [hr] at hE cx
        have HR := Lib.hid (show 1 ≤ (c : Int) ∧ (c : Int) ≤ 6 by omega)
        have D1 : decide ((c : Int) < 1) = false := decide_eq_false (by omega)
        have D2 : decide ((6 : Int) < (c : Int)) = false := decide_eq_false (by omega)
        cases hm : mayI r c
        · rw [hm] at hE m2
          have e1 : moveE L i c = 9 := by rw [hE]; rfl
          have HE := Lib.hid (And.intro e1 (moveL_no (L := L) (who := i) (role := c) (by rw [e1]; decide)))
          clear hi F e1 hE hx hfit r1 r2 hm hr
          go_enter Try.func10, Try.ntmps10
          go_wp2_with (first | (go_at_call 32; (with_reducible refine (HN.out).mono ?_); rintro e w1 ⟨rfl, rfl⟩) | (go_at_call 33; (with_reducible refine (none_no HF.out).mono ?_); rintro e w1 ⟨rfl, rfl⟩))
          (refine wp_region_below (by kernel_rfl) (by kernel_rfl) ?_; (repeat (first | go_big_quiet_skip | (go_big_quiet_want; first | (go_big_quiet_op; go_big_quiet_on) | (apply Exists.intro; refine ⟨fun W hW => ?_, ?_⟩; (focus (have cx_r := (hW.cell (by exact hg)).trans cx; unfold Oper.quietAt; go_simp; first | exact rfl | exact ⟨rfl, rfl⟩ | (go_at_call 34; exact q_call hW (may_any _)))); go_big_quiet_on; simp only [Act.put, List.setIfInBounds_toArray, List.set_cons_succ, List.set_cons_zero])))); refine wpQuiet_nil ?_; intro w1 hb1; have hz1 := hb1.size)
          go_wp2
          go_ret
          exact ⟨ret_int HE.out.1.symm, by rw [HE.out.2]; exact HF.out.kept hb1⟩
        · rw [hm] at hE m2
          simp only [if_true] at hE
          by_cases h3 : c = 3
          · have h3' : ((c : Int) == 3) = true := by simp; omega
            have h3'' : (c == 3) = true := by simp; omega
            have h4 : (c : Int) = 3 := by omega
            by_cases hb : 0 ≤ bestI L 3
            · have e1 : moveE L i c = 11 := by rw [hE, if_pos ⟨h4, hb⟩]
              have HE := Lib.hid (And.intro e1 (moveL_no (L := L) (who := i) (role := c) (by rw [e1]; decide)))
              generalize bestI L 3 = b at *
              clear hi F e1 hE hx hfit r1 r2 hm hr h3 h4
              go_enter Try.func10, Try.ntmps10
              go_wp2_with (first | (go_at_call 32; (with_reducible refine (HN.out).mono ?_); rintro e w1 ⟨rfl, rfl⟩) | (go_at_call 33; (with_reducible refine (none_no HF.out).mono ?_); rintro e w1 ⟨rfl, rfl⟩))
              (refine wp_region_below (by kernel_rfl) (by kernel_rfl) ?_; (repeat (first | go_big_quiet_skip | (go_big_quiet_want; first | (go_big_quiet_op; go_big_quiet_on) | (apply Exists.intro; refine ⟨fun W hW => ?_, ?_⟩; (focus (have cx_r := (hW.cell (by exact hg)).trans cx; unfold Oper.quietAt; go_simp; first | exact rfl | exact ⟨rfl, rfl⟩ | (go_at_call 34; exact q_call hW (may_any _)))); go_big_quiet_on; simp only [Act.put, List.setIfInBounds_toArray, List.set_cons_succ, List.set_cons_zero])))); refine wpQuiet_nil ?_; intro w1 hb1; have hz1 := hb1.size)
              go_wp2_with fail
              refine (HP.out _ hb1).mono ?_
              rintro e w2 ⟨rfl, hb2⟩
              go_wp2
              go_ret
              exact ⟨ret_int HE.out.1.symm, by rw [HE.out.2]; exact HF.out.kept (bl_then hb1 hb2)⟩
            · have e1 : moveE L i c = 0 := by rw [hE, if_neg (fun h => hb h.2)]
              have HE := Lib.hid (And.intro e1 (show moveL L i c = setR L i c by unfold moveL; rw [if_pos e1]; rfl))
              have hbe : bestI L 3 = -1 := by have := bestI_bd L 3; omega
              rw [hbe] at HP
              clear hi F e1 hE hx hfit r1 r2 hm hr hb hbe h3 h4
              go_enter Try.func10, Try.ntmps10
              go_wp2_with (first | (go_at_call 32; (with_reducible refine (HN.out).mono ?_); rintro e w1 ⟨rfl, rfl⟩) | (go_at_call 33; (with_reducible refine (none_no HF.out).mono ?_); rintro e w1 ⟨rfl, rfl⟩))
              (refine wp_region_below (by kernel_rfl) (by kernel_rfl) ?_; (repeat (first | go_big_quiet_skip | (go_big_quiet_want; first | (go_big_quiet_op; go_big_quiet_on) | (apply Exists.intro; refine ⟨fun W hW => ?_, ?_⟩; (focus (have cx_r := (hW.cell (by exact hg)).trans cx; unfold Oper.quietAt; go_simp; first | exact rfl | exact ⟨rfl, rfl⟩ | (go_at_call 34; exact q_call hW (may_any _)))); go_big_quiet_on; simp only [Act.put, List.setIfInBounds_toArray, List.set_cons_succ, List.set_cons_zero])))); refine wpQuiet_nil ?_; intro w1 hb1; have hz1 := hb1.size)
              go_wp2_with fail
              refine (HP.out _ hb1).mono ?_
              rintro e w2 ⟨rfl, hb2⟩
              have hbw := bl_then hb1 hb2
              have F2 := HF.out.below hbw
              have cx2 := F2.cell HX.out 2 _ rfl
              have z2 := F2.frozen
              have H2 := Lib.hid F2
              clear F2
              go_wp2
              go_ret
              exact ⟨ret_int HE.out.1.symm, by rw [HE.out.2]; exact ⟨PP.role H2.out HX.out (by omega) (by omega), keep_set hbw⟩⟩
          · have e1 : moveE L i c = 0 := by rw [hE, if_neg (fun h => h3 (by have := h.1; omega))]
            have HE := Lib.hid (And.intro e1 (show moveL L i c = setR L i c by unfold moveL; rw [if_pos e1]; rfl))
            have h3' : ((c : Int) == 3) = false := by simp; omega
            have h3'' : (c == 3) = false := by simp; omega
            clear hi F e1 hE hx hfit r1 r2 hm hr h3
            go_enter Try.func10, Try.ntmps10
            go_wp2_with (first | (go_at_call 32; (with_reducible refine (HN.out).mono ?_); rintro e w1 ⟨rfl, rfl⟩) | (go_at_call 33; (with_reducible refine (none_no HF.out).mono ?_); rintro e w1 ⟨rfl, rfl⟩))
            (refine wp_region_below (by kernel_rfl) (by kernel_rfl) ?_; (repeat (first | go_big_quiet_skip | (go_big_quiet_want; first | (go_big_quiet_op; go_big_quiet_on) | (apply Exists.intro; refine ⟨fun W hW => ?_, ?_⟩; (focus (have cx_r := (hW.cell (by exact hg)).trans cx; unfold Oper.quietAt; go_simp; first | exact rfl | exact ⟨rfl, rfl⟩ | (go_at_call 34; exact q_call hW (may_any _)))); go_big_quiet_on; simp only [Act.put, List.setIfInBounds_toArray, List.set_cons_succ, List.set_cons_zero])))); refine wpQuiet_nil ?_; intro w1 hb1; have hz1 := hb1.size)
            have F2 := HF.out.below hb1
            have cx2 := F2.cell HX.out 2 _ rfl
            have z2 := F2.frozen
            have H2 := Lib.hid F2
            clear F2
            go_wp2
            go_ret
            exact ⟨ret_int HE.out.1.symm, by rw [HE.out.2]; exact ⟨PP.role H2.out HX.out (by omega) (by omega), keep_set hb1⟩⟩
end Go.Proofs.Ytlnhofpjeinadaa
