/- The walks of the reference of peers: Move. -/
import Derived.Test.YtlnhofpjeinadaaPee10
import Derived.Test.YtlnhofpjeinadaaPee13
namespace Go.Proofs.Ytlnhofpjeinadaa
set_option linter.unusedSimpArgs false
set_option linter.unusedVariables false
open Go.RowKit Go.Proofs.Ytlnhofpjeinadaa.Pc Go.Shelf BigFrame
attribute [local go_sem] run_store_float

theorem moveE_is {L : List Pr} {i : Nat} (hi : isP L i = true) (role : Int) : moveE L i role = (if 1 ≤ role ∧ role ≤ 6 then (if mayI (prA L i).role role then (if role = 3 ∧ 0 ≤ bestI L 3 then 11 else 0) else 9) else 2) := by unfold moveE; rw [hi]; rfl
theorem mayI_no1 {x role : Int} (h : role ≤ x) : mayI x role = false := by unfold mayI; rw [decide_eq_false (by omega)]; rfl
theorem mayI_yes {x role : Int} (h : ¬ role ≤ x) (h' : ¬ (x = 4 ∧ role = 5)) : mayI x role = true := by
  unfold mayI
  rw [decide_eq_true (by omega)]
  simp only [Bool.true_and, Bool.not_eq_true', Bool.and_eq_false_imp, beq_iff_eq, beq_eq_false_iff_ne]
  exact fun h1 h2 => h' ⟨h1, h2⟩

set_option maxHeartbeats 1000000 in
theorem rMove_no {w : World} {q g : Nat} {L : List Pr} (F : RP w q g L) (who role : Int) (hi : isP L who = false) : Calls Try.prog 54 #[.pointer (some ⟨q, 0, none⟩), .int .i64 who, .int .i64 role] w (MovePost 87 89 layR q g L who role w) := by
  have e1 : moveE L who role = 10 := by unfold moveE; rw [hi]; rfl
  have HE := Lib.hid (And.intro e1 (moveL_no (L := L) (who := who) (role := role) (by rw [e1]; decide)))
  have HN := Lib.hid (hi ▸ is_any F who)
  have HF := Lib.hid F
  clear hi F e1
  go_enter Try.func54, Try.ntmps54
  go_wp2_with (go_at_call 62; (with_reducible refine (HN.out).mono ?_); rintro e w1 ⟨rfl, rfl⟩)
  go_ret
  exact ⟨ret_int HE.out.1.symm, by rw [HE.out.2]; exact HF.out.refl⟩

set_option maxRecDepth 100000 in
set_option maxHeartbeats 2000000 in
theorem rMove_lo {w : World} {q g : Nat} {L : List Pr} (F : RP w q g L) (i : Nat) (hi : isP L i = true) (role : Int) (h1 : role < 1) : Calls Try.prog 54 #[.pointer (some ⟨q, 0, none⟩), .int .i64 i, .int .i64 role] w (MovePost 87 89 layR q g L i role w) := by
  have hE := moveE_is hi role
  have HN := Lib.hid (hi ▸ is_any F i)
  have hx := prA_some hi
  rw [Int.toNat_natCast] at hx
  have HF := Lib.hid F
  have hfit := F.fit _ (List.mem_of_getElem? hx)
  have cx := F.cell0 hx _ rfl
  have HX := Lib.hid hx
  have hg := F.ltg
  have r1 := hfit.r1
  have r2 := hfit.r2
  have hlt : i < L.length := (List.getElem?_eq_some_iff.1 hx).1
  have hh := F.hi
  obtain ⟨cap, hst⟩ := F.st
  have c := kb_cell hst
  have z := F.frozen
  have HP := Lib.hid (fun W (k : Below w.heap.size w W) => rPrimary_any (F.below k))
  have e1 : moveE L i role = 2 := by rw [hE, if_neg (by omega)]
  have HE := Lib.hid (And.intro e1 (moveL_no (L := L) (who := i) (role := role) (by rw [e1]; decide)))
  generalize prA L i = x at *
  generalize L.length = n at *
  clear hi F e1 hE hx hfit
  go_enter Try.func54, Try.ntmps54
  go_wp2_with (go_at_call 62; (with_reducible refine (HN.out).mono ?_); rintro e w1 ⟨rfl, rfl⟩)
  go_ret
  exact ⟨ret_int HE.out.1.symm, by rw [HE.out.2]; exact HF.out.refl⟩

set_option maxRecDepth 100000 in
set_option maxHeartbeats 2000000 in
theorem rMove_hi {w : World} {q g : Nat} {L : List Pr} (F : RP w q g L) (i : Nat) (hi : isP L i = true) (role : Int) (h1 : ¬ role < 1) (h2 : 6 < role) : Calls Try.prog 54 #[.pointer (some ⟨q, 0, none⟩), .int .i64 i, .int .i64 role] w (MovePost 87 89 layR q g L i role w) := by
  have hE := moveE_is hi role
  have HN := Lib.hid (hi ▸ is_any F i)
  have hx := prA_some hi
  rw [Int.toNat_natCast] at hx
  have HF := Lib.hid F
  have hfit := F.fit _ (List.mem_of_getElem? hx)
  have cx := F.cell0 hx _ rfl
  have HX := Lib.hid hx
  have hg := F.ltg
  have r1 := hfit.r1
  have r2 := hfit.r2
  have hlt : i < L.length := (List.getElem?_eq_some_iff.1 hx).1
  have hh := F.hi
  obtain ⟨cap, hst⟩ := F.st
  have c := kb_cell hst
  have z := F.frozen
  have HP := Lib.hid (fun W (k : Below w.heap.size w W) => rPrimary_any (F.below k))
  have e1 : moveE L i role = 2 := by rw [hE, if_neg (by omega)]
  have HE := Lib.hid (And.intro e1 (moveL_no (L := L) (who := i) (role := role) (by rw [e1]; decide)))
  generalize prA L i = x at *
  generalize L.length = n at *
  clear hi F e1 hE hx hfit
  go_enter Try.func54, Try.ntmps54
  go_wp2_with (go_at_call 62; (with_reducible refine (HN.out).mono ?_); rintro e w1 ⟨rfl, rfl⟩)
  go_ret
  exact ⟨ret_int HE.out.1.symm, by rw [HE.out.2]; exact HF.out.refl⟩

set_option maxRecDepth 100000 in
set_option maxHeartbeats 2000000 in
theorem rMove_le {w : World} {q g : Nat} {L : List Pr} (F : RP w q g L) (i : Nat) (hi : isP L i = true) (role : Int) (h1 : ¬ role < 1) (h2 : ¬ 6 < role) (h3 : role ≤ (prA L i).role) : Calls Try.prog 54 #[.pointer (some ⟨q, 0, none⟩), .int .i64 i, .int .i64 role] w (MovePost 87 89 layR q g L i role w) := by
  have hE := moveE_is hi role
  have HN := Lib.hid (hi ▸ is_any F i)
  have hx := prA_some hi
  rw [Int.toNat_natCast] at hx
  have HF := Lib.hid F
  have hfit := F.fit _ (List.mem_of_getElem? hx)
  have cx := F.cell0 hx _ rfl
  have HX := Lib.hid hx
  have hg := F.ltg
  have r1 := hfit.r1
  have r2 := hfit.r2
  have hlt : i < L.length := (List.getElem?_eq_some_iff.1 hx).1
  have hh := F.hi
  obtain ⟨cap, hst⟩ := F.st
  have c := kb_cell hst
  have z := F.frozen
  have HP := Lib.hid (fun W (k : Below w.heap.size w W) => rPrimary_any (F.below k))
  have e1 : moveE L i role = 9 := by rw [hE, if_pos (by omega), mayI_no1 h3]; rfl
  have HE := Lib.hid (And.intro e1 (moveL_no (L := L) (who := i) (role := role) (by rw [e1]; decide)))
  generalize prA L i = x at *
  generalize L.length = n at *
  clear hi F e1 hE hx hfit
  go_enter Try.func54, Try.ntmps54
  go_wp2_with (go_at_call 62; (with_reducible refine (HN.out).mono ?_); rintro e w1 ⟨rfl, rfl⟩)
  go_ret
  exact ⟨ret_int HE.out.1.symm, by rw [HE.out.2]; exact HF.out.refl⟩

set_option maxRecDepth 100000 in
set_option maxHeartbeats 2000000 in
theorem rMove_45 {w : World} {q g : Nat} {L : List Pr} (F : RP w q g L) (i : Nat) (hi : isP L i = true) (role : Int) (h1 : ¬ role < 1) (h2 : ¬ 6 < role) (h3 : ¬ role ≤ (prA L i).role) (h4 : role = 5) (h5 : (prA L i).role = 4) : Calls Try.prog 54 #[.pointer (some ⟨q, 0, none⟩), .int .i64 i, .int .i64 role] w (MovePost 87 89 layR q g L i role w) := by
  have hE := moveE_is hi role
  have HN := Lib.hid (hi ▸ is_any F i)
  have hx := prA_some hi
  rw [Int.toNat_natCast] at hx
  have HF := Lib.hid F
  have hfit := F.fit _ (List.mem_of_getElem? hx)
  have cx := F.cell0 hx _ rfl
  have HX := Lib.hid hx
  have hg := F.ltg
  have r1 := hfit.r1
  have r2 := hfit.r2
  have hlt : i < L.length := (List.getElem?_eq_some_iff.1 hx).1
  have hh := F.hi
  obtain ⟨cap, hst⟩ := F.st
  have c := kb_cell hst
  have z := F.frozen
  have HP := Lib.hid (fun W (k : Below w.heap.size w W) => rPrimary_any (F.below k))
  have e1 : moveE L i role = 9 := by rw [hE, if_pos (by omega), h4, h5]; rfl
  have HE := Lib.hid (And.intro e1 (moveL_no (L := L) (who := i) (role := role) (by rw [e1]; decide)))
  subst h4
  generalize prA L i = x at *
  have h5' : (x.role == 4) = true := by simp [h5]
  rw [h5] at cx
  clear h3
  generalize L.length = n at *
  clear hi F e1 hE hx hfit
  go_enter Try.func54, Try.ntmps54
  go_wp2_with (go_at_call 62; (with_reducible refine (HN.out).mono ?_); rintro e w1 ⟨rfl, rfl⟩)
  go_ret
  exact ⟨ret_int HE.out.1.symm, by rw [HE.out.2]; exact HF.out.refl⟩

set_option maxRecDepth 100000 in
set_option maxHeartbeats 2000000 in
theorem rMove_5n {w : World} {q g : Nat} {L : List Pr} (F : RP w q g L) (i : Nat) (hi : isP L i = true) (role : Int) (h1 : ¬ role < 1) (h2 : ¬ 6 < role) (h3 : ¬ role ≤ (prA L i).role) (h4 : role = 5) (h5 : (prA L i).role ≠ 4) : Calls Try.prog 54 #[.pointer (some ⟨q, 0, none⟩), .int .i64 i, .int .i64 role] w (MovePost 87 89 layR q g L i role w) := by
  have hE := moveE_is hi role
  have HN := Lib.hid (hi ▸ is_any F i)
  have hx := prA_some hi
  rw [Int.toNat_natCast] at hx
  have HF := Lib.hid F
  have hfit := F.fit _ (List.mem_of_getElem? hx)
  have cx := F.cell0 hx _ rfl
  have HX := Lib.hid hx
  have hg := F.ltg
  have r1 := hfit.r1
  have r2 := hfit.r2
  have hlt : i < L.length := (List.getElem?_eq_some_iff.1 hx).1
  have hh := F.hi
  obtain ⟨cap, hst⟩ := F.st
  have c := kb_cell hst
  have z := F.frozen
  have HP := Lib.hid (fun W (k : Below w.heap.size w W) => rPrimary_any (F.below k))
  have e1 : moveE L i role = 0 := by rw [hE, if_pos (by omega), mayI_yes h3 (by omega), if_pos rfl, if_neg (by omega)]
  have HE := Lib.hid (And.intro e1 (show moveL L i role = setR L i role by unfold moveL; rw [if_pos e1]; rfl))
  subst h4
  generalize prA L i = x at *
  have h5' : (x.role == 4) = false := by simp [h5]
  generalize L.length = n at *
  clear hi F e1 hE hx hfit
  go_enter Try.func54, Try.ntmps54
  go_wp2_with (go_at_call 62; (with_reducible refine (HN.out).mono ?_); rintro e w1 ⟨rfl, rfl⟩)
  go_ret
  exact ⟨ret_int HE.out.1.symm, by rw [HE.out.2]; exact ⟨RP.role HF.out HX.out (by omega) (by omega), keep_set (Below.refl _ _)⟩⟩

set_option maxRecDepth 100000 in
set_option maxHeartbeats 2000000 in
theorem rMove_ok {w : World} {q g : Nat} {L : List Pr} (F : RP w q g L) (i : Nat) (hi : isP L i = true) (role : Int) (h1 : ¬ role < 1) (h2 : ¬ 6 < role) (h3 : ¬ role ≤ (prA L i).role) (h4 : role ≠ 5) (h5 : role ≠ 3) : Calls Try.prog 54 #[.pointer (some ⟨q, 0, none⟩), .int .i64 i, .int .i64 role] w (MovePost 87 89 layR q g L i role w) := by
  have hE := moveE_is hi role
  have HN := Lib.hid (hi ▸ is_any F i)
  have hx := prA_some hi
  rw [Int.toNat_natCast] at hx
  have HF := Lib.hid F
  have hfit := F.fit _ (List.mem_of_getElem? hx)
  have cx := F.cell0 hx _ rfl
  have HX := Lib.hid hx
  have hg := F.ltg
  have r1 := hfit.r1
  have r2 := hfit.r2
  have hlt : i < L.length := (List.getElem?_eq_some_iff.1 hx).1
  have hh := F.hi
  obtain ⟨cap, hst⟩ := F.st
  have c := kb_cell hst
  have z := F.frozen
  have HP := Lib.hid (fun W (k : Below w.heap.size w W) => rPrimary_any (F.below k))
  have e1 : moveE L i role = 0 := by rw [hE, if_pos (by omega), mayI_yes h3 (by omega), if_pos rfl, if_neg (by omega)]
  have HE := Lib.hid (And.intro e1 (show moveL L i role = setR L i role by unfold moveL; rw [if_pos e1]; rfl))
  have h4' : (role == 5) = false := by simp [h4]
  have h5' : (role == 3) = false := by simp [h5]
  generalize prA L i = x at *
  generalize L.length = n at *
  clear hi F e1 hE hx hfit
  go_enter Try.func54, Try.ntmps54
  go_wp2_with (go_at_call 62; (with_reducible refine (HN.out).mono ?_); rintro e w1 ⟨rfl, rfl⟩)
  go_ret
  exact ⟨ret_int HE.out.1.symm, by rw [HE.out.2]; exact ⟨RP.role HF.out HX.out (by omega) (by omega), keep_set (Below.refl _ _)⟩⟩

set_option maxRecDepth 100000 in
set_option maxHeartbeats 2000000 in
theorem rMove_3n {w : World} {q g : Nat} {L : List Pr} (F : RP w q g L) (i : Nat) (hi : isP L i = true) (role : Int) (h1 : ¬ role < 1) (h2 : ¬ 6 < role) (h3 : ¬ role ≤ (prA L i).role) (h4 : role = 3) (h5 : 0 ≤ bestI L 3) : Calls Try.prog 54 #[.pointer (some ⟨q, 0, none⟩), .int .i64 i, .int .i64 role] w (MovePost 87 89 layR q g L i role w) := by
  have hE := moveE_is hi role
  have HN := Lib.hid (hi ▸ is_any F i)
  have hx := prA_some hi
  rw [Int.toNat_natCast] at hx
  have HF := Lib.hid F
  have hfit := F.fit _ (List.mem_of_getElem? hx)
  have cx := F.cell0 hx _ rfl
  have HX := Lib.hid hx
  have hg := F.ltg
  have r1 := hfit.r1
  have r2 := hfit.r2
  have hlt : i < L.length := (List.getElem?_eq_some_iff.1 hx).1
  have hh := F.hi
  obtain ⟨cap, hst⟩ := F.st
  have c := kb_cell hst
  have z := F.frozen
  have HP := Lib.hid (fun W (k : Below w.heap.size w W) => rPrimary_any (F.below k))
  have e1 : moveE L i role = 11 := by rw [hE, if_pos (by omega), mayI_yes h3 (by omega), if_pos rfl, if_pos ⟨h4, h5⟩]
  have HE := Lib.hid (And.intro e1 (moveL_no (L := L) (who := i) (role := role) (by rw [e1]; decide)))
  subst h4
  generalize bestI L 3 = b at *
  generalize prA L i = x at *
  generalize L.length = n at *
  clear hi F e1 hE hx hfit
  go_enter Try.func54, Try.ntmps54
  go_wp2_with (go_at_call 62; (with_reducible refine (HN.out).mono ?_); rintro e w1 ⟨rfl, rfl⟩)
  refine (HP.out _ (Below.refl _ _)).mono ?_
  rintro e w2 ⟨rfl, hb2⟩
  go_wp2
  go_ret
  exact ⟨ret_int HE.out.1.symm, by rw [HE.out.2]; exact HF.out.kept hb2⟩

set_option maxRecDepth 100000 in
set_option maxHeartbeats 2000000 in
theorem rMove_3y {w : World} {q g : Nat} {L : List Pr} (F : RP w q g L) (i : Nat) (hi : isP L i = true) (role : Int) (h1 : ¬ role < 1) (h2 : ¬ 6 < role) (h3 : ¬ role ≤ (prA L i).role) (h4 : role = 3) (h5 : ¬ 0 ≤ bestI L 3) : Calls Try.prog 54 #[.pointer (some ⟨q, 0, none⟩), .int .i64 i, .int .i64 role] w (MovePost 87 89 layR q g L i role w) := by
  have hE := moveE_is hi role
  have HN := Lib.hid (hi ▸ is_any F i)
  have hx := prA_some hi
  rw [Int.toNat_natCast] at hx
  have HF := Lib.hid F
  have hfit := F.fit _ (List.mem_of_getElem? hx)
  have cx := F.cell0 hx _ rfl
  have HX := Lib.hid hx
  have hg := F.ltg
  have r1 := hfit.r1
  have r2 := hfit.r2
  have hlt : i < L.length := (List.getElem?_eq_some_iff.1 hx).1
  have hh := F.hi
  obtain ⟨cap, hst⟩ := F.st
  have c := kb_cell hst
  have z := F.frozen
  have HP := Lib.hid (fun W (k : Below w.heap.size w W) => rPrimary_any (F.below k))
  have e1 : moveE L i role = 0 := by rw [hE, if_pos (by omega), mayI_yes h3 (by omega), if_pos rfl, if_neg (fun h => h5 h.2)]
  have HE := Lib.hid (And.intro e1 (show moveL L i role = setR L i role by unfold moveL; rw [if_pos e1]; rfl))
  subst h4
  have hb : bestI L 3 = -1 := by have := bestI_bd L 3; omega
  rw [hb] at HP
  clear h5 hb
  generalize prA L i = x at *
  generalize L.length = n at *
  clear hi F e1 hE hx hfit
  go_enter Try.func54, Try.ntmps54
  go_wp2_with (go_at_call 62; (with_reducible refine (HN.out).mono ?_); rintro e w1 ⟨rfl, rfl⟩)
  refine (HP.out _ (Below.refl _ _)).mono ?_
  rintro e w2 ⟨rfl, hb2⟩
  have F2 := HF.out.below hb2
  have cx2 := F2.cell0 HX.out _ rfl
  have z2 := F2.frozen
  have c2 := kb_cell (kb_below hb2 hst)
  have H2 := Lib.hid F2
  clear F2 cx c z
  go_wp2
  go_ret
  exact ⟨ret_int HE.out.1.symm, by rw [HE.out.2]; exact ⟨RP.role H2.out HX.out (by omega) (by omega), keep_set hb2⟩⟩

theorem rMove_any {w : World} {q g : Nat} {L : List Pr} (F : RP w q g L) (who role : Int) : Calls Try.prog 54 #[.pointer (some ⟨q, 0, none⟩), .int .i64 who, .int .i64 role] w (MovePost 87 89 layR q g L who role w) := by
  cases hi : isP L who
  · exact rMove_no F who role hi
  · obtain ⟨i, rfl, -, -⟩ := isP_nat hi
    by_cases h1 : role < 1
    · exact rMove_lo F i hi role h1
    by_cases h2 : 6 < role
    · exact rMove_hi F i hi role h1 h2
    by_cases h3 : role ≤ (prA L i).role
    · exact rMove_le F i hi role h1 h2 h3
    by_cases h4 : role = 5
    · by_cases h5 : (prA L i).role = 4
      · exact rMove_45 F i hi role h1 h2 h3 h4 h5
      · exact rMove_5n F i hi role h1 h2 h3 h4 h5
    by_cases h5 : role = 3
    · by_cases h6 : 0 ≤ bestI L 3
      · exact rMove_3n F i hi role h1 h2 h3 h5 h6
      · exact rMove_3y F i hi role h1 h2 h3 h5 h6
    · exact rMove_ok F i hi role h1 h2 h3 h4 h5
end Go.Proofs.Ytlnhofpjeinadaa
