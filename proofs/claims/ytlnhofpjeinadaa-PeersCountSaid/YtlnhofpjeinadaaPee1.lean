/- Providers in memory: the program's and the reference's; who there is, and how each stands. -/
import Derived.Test.YtlnhofpjeinadaaPeeP
import Derived.Outline
namespace Go.Proofs.Ytlnhofpjeinadaa
set_option linter.unusedSimpArgs false
set_option linter.unusedVariables false
open Go.RowKit Go.Proofs.Ytlnhofpjeinadaa.Pc BigFrame
attribute [local go_sem] run_store_float

/-- Providers in memory: q the struct's block, g the row's; lay: how one lies in its four cells. -/
structure PX (T1 T2 : TypeId) (lay : Pr → List Value) (w : World) (q g : Nat) (L : List Pr) : Prop where
  st : ∃ cap, w.heap[q]? = some (.cells #[.slice (some ⟨g, 0, none⟩) L.length cap] T1)
  row : ∃ cur, w.heap[g]? = some (.cells cur T2) ∧ ∀ i x, L[i]? = some x → ∀ j u, (lay x)[j]? = some u → cur[i * 4 + j]? = some u
  ne : q ≠ g
  pos : 1 ≤ L.length
  hi : L.length ≤ 16
  fit : ∀ x ∈ L, x.Fit
section
variable {T1 T2 : TypeId} {lay : Pr → List Value} {w w' : World} {q g : Nat} {L : List Pr}
theorem PX.ltg (h : PX T1 T2 lay w q g L) : g < w.heap.size := by obtain ⟨cur, h1, _⟩ := h.row; exact kb_lt h1
theorem PX.ltq (h : PX T1 T2 lay w q g L) : q < w.heap.size := by obtain ⟨cap, h1⟩ := h.st; exact kb_lt h1
theorem PX.keep {S : Nat → Prop} (h : PX T1 T2 lay w q g L) (k : Keep S w w') (hq : ¬ S q) (hg : ¬ S g) : PX T1 T2 lay w' q g L where
  st := by obtain ⟨cap, h1⟩ := h.st; exact ⟨cap, k.kb h1 hq⟩
  row := by obtain ⟨cur, h1, h2⟩ := h.row; exact ⟨cur, k.kb h1 hg, h2⟩
  ne := h.ne
  pos := h.pos
  hi := h.hi
  fit := h.fit
theorem PX.below (h : PX T1 T2 lay w q g L) (k : Below w.heap.size w w') : PX T1 T2 lay w' q g L := h.keep (S := fun _ => False) (Keep.of_below k) (fun x => x) (fun x => x)
theorem PX.frozen (h : PX T1 T2 lay w q g L) (i : Nat) : w.frozen? ⟨g, i, none⟩ = false := by obtain ⟨cur, h1, _⟩ := h.row; exact kb_frozen h1 i
theorem PX.cell (h : PX T1 T2 lay w q g L) {i : Nat} {x : Pr} (hx : L[i]? = some x) (j : Nat) (u : Value) (hu : (lay x)[j]? = some u) : w.cell? ⟨g, i * 4 + j, none⟩ = some u := by
  obtain ⟨cur, h1, h2⟩ := h.row
  exact (kb_cell h1 _).trans (h2 i x hx j u hu)
theorem PX.cell0 (h : PX T1 T2 lay w q g L) {i : Nat} {x : Pr} (hx : L[i]? = some x) (u : Value) (hu : (lay x)[0]? = some u) : w.cell? ⟨g, i * 4, none⟩ = some u := h.cell hx 0 u hu
theorem PX.set (h : PX T1 T2 lay w q g L) {i j : Nat} {x x' : Pr} {u : Value} (hx : L[i]? = some x) (hLay : ∀ y, (lay y).length = 4) (hj : j < 4) (hu : lay x' = (lay x).set j u) (hf : x'.Fit) :
    PX T1 T2 lay (w.setCell ⟨g, i * 4 + j, none⟩ u) q g (L.set i x') where
  st := by
    obtain ⟨cap, h1⟩ := h.st
    exact ⟨cap, by rw [List.length_set]; exact kb_far h1 h.ne _⟩
  row := by
    obtain ⟨cur, h1, h2⟩ := h.row
    refine ⟨_, kb_set h1 u, fun i' x'' hx' j' u' hu' => ?_⟩
    have hil : i < L.length := (List.getElem?_eq_some_iff.1 hx).1
    have h4 := hLay x
    by_cases hi : i' = i
    · subst hi
      rw [List.getElem?_set_self hil] at hx'
      injection hx' with hx'
      subst hx'
      rw [hu] at hu'
      by_cases hjj : j' = j
      · subst hjj
        rw [List.getElem?_set_self (by rw [hLay]; exact hj)] at hu'
        injection hu' with hu'
        subst hu'
        have hold := h2 i' x hx j' _ (List.getElem?_eq_getElem (by rw [hLay]; exact hj))
        have hlt : i' * 4 + j' < cur.size := (Array.getElem?_eq_some_iff.1 hold).1
        simp [Array.getElem?_setIfInBounds, hlt]
      · rw [List.getElem?_set_ne (by omega)] at hu'
        have hold := h2 i' x hx j' _ hu'
        rw [Array.getElem?_setIfInBounds, if_neg (by omega)]
        exact hold
    · rw [List.getElem?_set_ne (by omega)] at hx'
      have hold := h2 i' x'' hx' j' _ hu'
      have hj' : j' < (lay x'').length := (List.getElem?_eq_some_iff.1 hu').1
      rw [Array.getElem?_setIfInBounds]
      by_cases e : i * 4 + j = i' * 4 + j'
      · exact absurd e (by have := hLay x''; omega)
      · rw [if_neg e]; exact hold
  ne := h.ne
  pos := by rw [List.length_set]; exact h.pos
  hi := by rw [List.length_set]; exact h.hi
  fit := fun y hy => by
    rcases List.mem_or_eq_of_mem_set hy with h1 | h1
    · exact h.fit y h1
    · rw [h1]; exact hf
end
def layP (x : Pr) : List Value := [.int .i64 x.s, .float .f64 x.p, .int .i64 x.role, .int .i64 x.strikes]
def layR (x : Pr) : List Value := [.int .i64 x.role, .int .i64 x.strikes, .int .i64 x.s, .float .f64 x.p]
theorem layP_len (x : Pr) : (layP x).length = 4 := rfl
theorem layR_len (x : Pr) : (layR x).length = 4 := rfl
/-- The program's; the reference's. -/
abbrev PP := PX 80 71 layP
abbrev RP := PX 87 89 layR

set_option maxHeartbeats 400000 in
theorem none_no {w : World} {q g : Nat} {L : List Pr} (h : PP w q g L) : Calls Try.prog 33 #[.pointer (some ⟨q, 0, none⟩)] w fun e w' => e = .returned (.bool false) ∧ w = w' := by
  obtain ⟨cap, hst⟩ := h.st
  have c := kb_cell hst
  have hp := h.pos
  generalize L.length = n at *
  have hd : ((n : Int) == 0) = false := by simp; omega
  have hd' : (n == 0) = false := by simp; omega
  clear h
  go_enter Try.func33, Try.ntmps33
  go_wp2
  go_ret
  exact ⟨rfl, rfl⟩
set_option maxHeartbeats 400000 in
theorem at_yes {w : World} {q g : Nat} {L : List Pr} (h : PP w q g L) (i : Nat) (hi : i < L.length) : Calls Try.prog 32 #[.pointer (some ⟨q, 0, none⟩), .int .i64 i] w fun e w' => e = .returned (.pointer (some ⟨g, i * 4, none⟩)) ∧ w = w' := by
  obtain ⟨cap, hst⟩ := h.st
  have c := kb_cell hst
  have hp := h.pos
  have hh := h.hi
  have HN := Lib.hid h
  generalize L.length = n at *
  have hd0 : ¬ (i : Int) < 0 := by omega
  have hd : ¬ (n : Int) ≤ (i : Int) := by omega
  clear h
  go_enter Try.func32, Try.ntmps32
  go_wp2_with (go_at_call 33; (with_reducible refine (none_no HN.out).mono ?_); rintro e w1 ⟨rfl, rfl⟩)
  go_ret
  exact ⟨rfl, rfl⟩
set_option maxHeartbeats 400000 in
theorem at_no {w : World} {q g : Nat} {L : List Pr} (h : PP w q g L) (who : Int) (hi : isP L who = false) : Calls Try.prog 32 #[.pointer (some ⟨q, 0, none⟩), .int .i64 who] w fun e w' => e = .returned (.pointer none) ∧ w = w' := by
  obtain ⟨cap, hst⟩ := h.st
  have c := kb_cell hst
  have hp := h.pos
  have hh := h.hi
  have HN := Lib.hid h
  have hi' : ¬ (0 ≤ who ∧ who < L.length) := by simpa [isP] using hi
  clear hi
  generalize L.length = n at *
  clear h
  by_cases h1 : who < 0
  · clear hi'
    go_enter Try.func32, Try.ntmps32
    go_wp2_with (go_at_call 33; (with_reducible refine (none_no HN.out).mono ?_); rintro e w1 ⟨rfl, rfl⟩)
    go_ret
    exact ⟨rfl, rfl⟩
  · have h2 : (n : Int) ≤ who := by omega
    clear hi'
    go_enter Try.func32, Try.ntmps32
    go_wp2_with (go_at_call 33; (with_reducible refine (none_no HN.out).mono ?_); rintro e w1 ⟨rfl, rfl⟩)
    go_ret
    exact ⟨rfl, rfl⟩
set_option maxHeartbeats 400000 in
theorem is_any {w : World} {q g : Nat} {L : List Pr} (h : RP w q g L) (who : Int) : Calls Try.prog 62 #[.pointer (some ⟨q, 0, none⟩), .int .i64 who] w fun e w' => e = .returned (.bool (isP L who)) ∧ w = w' := by
  obtain ⟨cap, hst⟩ := h.st
  have c := kb_cell hst
  have hp := h.pos
  have hh := h.hi
  unfold isP
  generalize L.length = n at *
  clear h
  by_cases h1 : who < 0
  · rw [decide_eq_false (by omega)]
    go_enter Try.func62, Try.ntmps62
    go_wp2
    go_ret
    exact ⟨rfl, rfl⟩
  · by_cases h2 : who < n
    · rw [decide_eq_true (by omega)]
      have h1' : 0 ≤ who := by omega
      go_enter Try.func62, Try.ntmps62
      go_wp2
      go_ret
      exact ⟨rfl, rfl⟩
    · rw [decide_eq_false (by omega)]
      have h1' : 0 ≤ who := by omega
      go_enter Try.func62, Try.ntmps62
      go_wp2
      go_ret
      exact ⟨rfl, rfl⟩
/-- One of them, by its number. -/
theorem isP_nat {L : List Pr} {who : Int} (h : isP L who = true) : ∃ i : Nat, who = i ∧ i < L.length ∧ L[i]? = some (prA L who) := by
  have h' : 0 ≤ who ∧ who < L.length := by simpa [isP] using h
  refine ⟨who.toNat, by omega, by omega, prA_some h⟩

set_option maxHeartbeats 1000000 in
theorem Role_any {w : World} {q g : Nat} {L : List Pr} (h : PP w q g L) (who : Int) : Calls Try.prog 48 #[.pointer (some ⟨q, 0, none⟩), .int .i64 who] w fun e w' => e = .returned (.int .i64 (roleI L who)) ∧ w = w' := by
  unfold roleI
  cases hi : isP L who
  · have HN := Lib.hid (at_no h who hi)
    clear hi h
    go_enter Try.func48, Try.ntmps48
    go_wp2_with (go_at_call 32; (with_reducible refine (HN.out).mono ?_); rintro e w1 ⟨rfl, rfl⟩)
    go_ret
    exact ⟨rfl, rfl⟩
  · obtain ⟨i, rfl, hlt, hx⟩ := isP_nat hi
    have c2 := h.cell hx 2 _ rfl
    have HN := Lib.hid (at_yes h i hlt)
    generalize prA L i = x at *
    clear hi h hx
    go_enter Try.func48, Try.ntmps48
    go_wp2_with (go_at_call 32; (with_reducible refine (HN.out).mono ?_); rintro e w1 ⟨rfl, rfl⟩)
    go_ret
    exact ⟨rfl, rfl⟩
set_option maxHeartbeats 1000000 in
theorem Strikes_any {w : World} {q g : Nat} {L : List Pr} (h : PP w q g L) (who : Int) : Calls Try.prog 14 #[.pointer (some ⟨q, 0, none⟩), .int .i64 who] w fun e w' => e = .returned (.int .i64 (strikesI L who)) ∧ w = w' := by
  unfold strikesI
  cases hi : isP L who
  · have HN := Lib.hid (at_no h who hi)
    clear hi h
    go_enter Try.func14, Try.ntmps14
    go_wp2_with (go_at_call 32; (with_reducible refine (HN.out).mono ?_); rintro e w1 ⟨rfl, rfl⟩)
    go_ret
    exact ⟨rfl, rfl⟩
  · obtain ⟨i, rfl, hlt, hx⟩ := isP_nat hi
    have c3 := h.cell hx 3 _ rfl
    have HN := Lib.hid (at_yes h i hlt)
    generalize prA L i = x at *
    clear hi h hx
    go_enter Try.func14, Try.ntmps14
    go_wp2_with (go_at_call 32; (with_reducible refine (HN.out).mono ?_); rintro e w1 ⟨rfl, rfl⟩)
    go_ret
    exact ⟨rfl, rfl⟩
set_option maxHeartbeats 1000000 in
theorem rRole_any {w : World} {q g : Nat} {L : List Pr} (h : RP w q g L) (who : Int) : Calls Try.prog 49 #[.pointer (some ⟨q, 0, none⟩), .int .i64 who] w fun e w' => e = .returned (.int .i64 (roleI L who)) ∧ w = w' := by
  unfold roleI
  have HN := Lib.hid (is_any h who)
  obtain ⟨cap, hst⟩ := h.st
  have c := kb_cell hst
  cases hi : isP L who
  · rw [hi] at HN
    clear hi h
    go_enter Try.func49, Try.ntmps49
    go_wp2_with (go_at_call 62; (with_reducible refine (HN.out).mono ?_); rintro e w1 ⟨rfl, rfl⟩)
    go_ret
    exact ⟨rfl, rfl⟩
  · rw [hi] at HN
    obtain ⟨i, rfl, hlt, hx⟩ := isP_nat hi
    have c2 := h.cell0 hx _ rfl
    generalize prA L i = x at *
    have hh := h.hi
    generalize L.length = n at *
    clear hi h hx
    go_enter Try.func49, Try.ntmps49
    go_wp2_with (go_at_call 62; (with_reducible refine (HN.out).mono ?_); rintro e w1 ⟨rfl, rfl⟩)
    go_ret
    exact ⟨rfl, rfl⟩
set_option maxHeartbeats 1000000 in
theorem rStrikes_any {w : World} {q g : Nat} {L : List Pr} (h : RP w q g L) (who : Int) : Calls Try.prog 50 #[.pointer (some ⟨q, 0, none⟩), .int .i64 who] w fun e w' => e = .returned (.int .i64 (strikesI L who)) ∧ w = w' := by
  unfold strikesI
  have HN := Lib.hid (is_any h who)
  obtain ⟨cap, hst⟩ := h.st
  have c := kb_cell hst
  cases hi : isP L who
  · rw [hi] at HN
    clear hi h
    go_enter Try.func50, Try.ntmps50
    go_wp2_with (go_at_call 62; (with_reducible refine (HN.out).mono ?_); rintro e w1 ⟨rfl, rfl⟩)
    go_ret
    exact ⟨rfl, rfl⟩
  · rw [hi] at HN
    obtain ⟨i, rfl, hlt, hx⟩ := isP_nat hi
    have c2 := h.cell hx 1 _ rfl
    generalize prA L i = x at *
    have hh := h.hi
    generalize L.length = n at *
    clear hi h hx
    go_enter Try.func50, Try.ntmps50
    go_wp2_with (go_at_call 62; (with_reducible refine (HN.out).mono ?_); rintro e w1 ⟨rfl, rfl⟩)
    go_ret
    exact ⟨rfl, rfl⟩

/-- The merit of one of them; what Merit tells. -/
def merV (x : Pr) : Value := .agg #[.int .i64 x.s, .float .f64 x.p]
def meritV (L : List Pr) (who : Int) : Value := if isP L who then merV (prA L who) else merV prZ
set_option maxHeartbeats 1000000 in
theorem Merit_any {w : World} {q g : Nat} {L : List Pr} (h : PP w q g L) (who : Int) : Calls Try.prog 12 #[.pointer (some ⟨q, 0, none⟩), .int .i64 who] w fun e w' => e = .returned (.tuple #[meritV L who, .bool (isP L who)]) ∧ Below w.heap.size w w' := by
  unfold meritV
  cases hi : isP L who
  · have HN := Lib.hid (fun W k => at_no (PX.below (w' := W) h k) who hi)
    clear hi h
    go_enter Try.func12, Try.ntmps12
    go_wp2_with (go_at_call 32; (with_reducible refine (HN.out _ (by (repeat (with_reducible (first | exact Below.refl _ _ | assumption | refine bl_alloc ?_ _ | refine bl_drew ?_ | refine bl_drewN ?_ _ | (refine bl_set ?_ ?_ _; (focus (first | (simp; done) | (simp; omega) | omega))) | refine bl_then ?_ (by assumption)))))).mono ?_); rintro e w1 ⟨rfl, rfl⟩)
    exact bodyPost_ret (v := .tuple #[.agg #[.int .i64 0, .float .f64 0], .bool false]) (by simp [results, Try.results12, go_sem]) rfl ⟨rfl, by (repeat (with_reducible (first | exact Below.refl _ _ | assumption | refine bl_alloc ?_ _ | refine bl_drew ?_ | refine bl_drewN ?_ _ | (refine bl_set ?_ ?_ _; (focus (first | (simp; done) | (simp; omega) | omega))) | refine bl_then ?_ (by assumption))))⟩
  · obtain ⟨i, rfl, hlt, hx⟩ := isP_nat hi
    have c0 := h.cell0 hx _ rfl
    have c1 := h.cell hx 1 _ rfl
    have hg := h.ltg
    have HN := Lib.hid (fun W k => at_yes (PX.below (w' := W) h k) i hlt)
    generalize prA L i = x at *
    clear hi h hx
    go_enter Try.func12, Try.ntmps12
    go_wp2_with (go_at_call 32; (with_reducible refine (HN.out _ (by (repeat (with_reducible (first | exact Below.refl _ _ | assumption | refine bl_alloc ?_ _ | refine bl_drew ?_ | refine bl_drewN ?_ _ | (refine bl_set ?_ ?_ _; (focus (first | (simp; done) | (simp; omega) | omega))) | refine bl_then ?_ (by assumption)))))).mono ?_); rintro e w1 ⟨rfl, rfl⟩)
    exact bodyPost_ret (v := .tuple #[.agg #[.int .i64 x.s, .float .f64 x.p], .bool true]) (by simp [results, Try.results12, go_sem]) rfl ⟨rfl, by (repeat (with_reducible (first | exact Below.refl _ _ | assumption | refine bl_alloc ?_ _ | refine bl_drew ?_ | refine bl_drewN ?_ _ | (refine bl_set ?_ ?_ _; (focus (first | (simp; done) | (simp; omega) | omega))) | refine bl_then ?_ (by assumption))))⟩
set_option maxHeartbeats 1000000 in
theorem rMerit_any {w : World} {q g : Nat} {L : List Pr} (h : RP w q g L) (who : Int) : Calls Try.prog 52 #[.pointer (some ⟨q, 0, none⟩), .int .i64 who] w fun e w' => e = .returned (.tuple #[meritV L who, .bool (isP L who)]) ∧ Below w.heap.size w w' := by
  unfold meritV
  have HN := Lib.hid (fun W k => is_any (PX.below (w' := W) h k) who)
  obtain ⟨cap, hst⟩ := h.st
  have c := kb_cell hst
  have hq := h.ltq
  cases hi : isP L who
  · rw [hi] at HN
    clear hi h
    go_enter Try.func52, Try.ntmps52
    go_wp2_with (go_at_call 62; (with_reducible refine (HN.out _ (by (repeat (with_reducible (first | exact Below.refl _ _ | assumption | refine bl_alloc ?_ _ | refine bl_drew ?_ | refine bl_drewN ?_ _ | (refine bl_set ?_ ?_ _; (focus (first | (simp; done) | (simp; omega) | omega))) | refine bl_then ?_ (by assumption)))))).mono ?_); rintro e w1 ⟨rfl, rfl⟩)
    exact bodyPost_ret (v := .tuple #[.agg #[.int .i64 0, .float .f64 0], .bool false]) (by simp [results, Try.results52, go_sem]) rfl ⟨rfl, by (repeat (with_reducible (first | exact Below.refl _ _ | assumption | refine bl_alloc ?_ _ | refine bl_drew ?_ | refine bl_drewN ?_ _ | (refine bl_set ?_ ?_ _; (focus (first | (simp; done) | (simp; omega) | omega))) | refine bl_then ?_ (by assumption))))⟩
  · rw [hi] at HN
    obtain ⟨i, rfl, hlt, hx⟩ := isP_nat hi
    have c2 := h.cell hx 2 _ rfl
    have c3 := h.cell hx 3 _ rfl
    have hg := h.ltg
    generalize prA L i = x at *
    have hh := h.hi
    generalize L.length = n at *
    clear hi h hx
    go_enter Try.func52, Try.ntmps52
    go_wp2_with (go_at_call 62; (with_reducible refine (HN.out _ (by (repeat (with_reducible (first | exact Below.refl _ _ | assumption | refine bl_alloc ?_ _ | refine bl_drew ?_ | refine bl_drewN ?_ _ | (refine bl_set ?_ ?_ _; (focus (first | (simp; done) | (simp; omega) | omega))) | refine bl_then ?_ (by assumption)))))).mono ?_); rintro e w1 ⟨rfl, rfl⟩)
    exact bodyPost_ret (v := .tuple #[.agg #[.int .i64 x.s, .float .f64 x.p], .bool true]) (by simp [results, Try.results52, go_sem]) rfl ⟨rfl, by (repeat (with_reducible (first | exact Below.refl _ _ | assumption | refine bl_alloc ?_ _ | refine bl_drew ?_ | refine bl_drewN ?_ _ | (refine bl_set ?_ ?_ _; (focus (first | (simp; done) | (simp; omega) | omega))) | refine bl_then ?_ (by assumption))))⟩
end Go.Proofs.Ytlnhofpjeinadaa
