/- PeersCount: strikes and merits are those that were counted; rows of merits and of ints that are written in place. -/
import Derived.Test.YtlnhofpjeinadaaPee25
import Derived.Test.YtlnhofpjeinadaaKit
namespace Go.Proofs.Ytlnhofpjeinadaa
open Go.RowKit Go.Proofs.Ytlnhofpjeinadaa.Pc BigFrame
attribute [local go_sem] run_store_float
set_option linter.unusedSimpArgs false
set_option linter.unusedVariables false

/-- A row of merits, a row of ints: blocks of the call's own, stored into in place. -/
def MAt (w : World) (b : Nat) (ms : List Mr) : Prop := ∃ cur : Array Value, w.heap[b]? = some (.cells cur 33) ∧ ∀ (i : Nat) (m : Mr), ms[i]? = some m → cur[i * 2]? = some (.int .i64 m.s) ∧ cur[i * 2 + 1]? = some (.float .f64 m.p)
def SAt (w : World) (b : Nat) (st : List Int) : Prop := ∃ cur : Array Value, w.heap[b]? = some (.cells cur 3) ∧ ∀ (i : Nat) (k : Int), st[i]? = some k → cur[i]? = some (.int .i64 k)
section
variable {w w' : World} {b : Nat} {ms : List Mr} {st : List Int}
theorem MAt.lt (h : MAt w b ms) : b < w.heap.size := by obtain ⟨cur, h1, _⟩ := h; exact kb_lt h1
theorem SAt.lt (h : SAt w b st) : b < w.heap.size := by obtain ⟨cur, h1, _⟩ := h; exact kb_lt h1
theorem MAt.frozen (h : MAt w b ms) (i : Nat) : w.frozen? ⟨b, i, none⟩ = false := by obtain ⟨cur, h1, _⟩ := h; exact kb_frozen h1 i
theorem SAt.frozen (h : SAt w b st) (i : Nat) : w.frozen? ⟨b, i, none⟩ = false := by obtain ⟨cur, h1, _⟩ := h; exact kb_frozen h1 i
theorem MAt.cell (h : MAt w b ms) {i : Nat} {m : Mr} (hm : ms[i]? = some m) : w.cell? ⟨b, i * 2, none⟩ = some (.int .i64 m.s) ∧ w.cell? ⟨b, i * 2 + 1, none⟩ = some (.float .f64 m.p) := by
  obtain ⟨cur, h1, h2⟩ := h
  exact ⟨(kb_cell h1 _).trans (h2 i m hm).1, (kb_cell h1 _).trans (h2 i m hm).2⟩
theorem SAt.cell (h : SAt w b st) {i : Nat} {k : Int} (hk : st[i]? = some k) : w.cell? ⟨b, i, none⟩ = some (.int .i64 k) := by
  obtain ⟨cur, h1, h2⟩ := h
  exact (kb_cell h1 _).trans (h2 i k hk)
theorem MAt.keep {S : Nat → Prop} (h : MAt w b ms) (k : Keep S w w') (hn : ¬ S b) : MAt w' b ms := by
  obtain ⟨cur, h1, h2⟩ := h
  exact ⟨cur, k.kb h1 hn, h2⟩
theorem SAt.keep {S : Nat → Prop} (h : SAt w b st) (k : Keep S w w') (hn : ¬ S b) : SAt w' b st := by
  obtain ⟨cur, h1, h2⟩ := h
  exact ⟨cur, k.kb h1 hn, h2⟩
theorem MAt.below (h : MAt w b ms) (k : Below w.heap.size w w') : MAt w' b ms := h.keep (S := fun _ => False) (Keep.of_below k) (fun h => h)
theorem SAt.below (h : SAt w b st) (k : Below w.heap.size w w') : SAt w' b st := h.keep (S := fun _ => False) (Keep.of_below k) (fun h => h)
theorem MAt.set (h : MAt w b ms) {i : Nat} {m : Mr} (hm : ms[i]? = some m) (s : Int) (p : Nat) : MAt ((w.setCell ⟨b, i * 2, none⟩ (.int .i64 s)).setCell ⟨b, i * 2 + 1, none⟩ (.float .f64 p)) b (ms.set i ⟨s, p⟩) := by
  obtain ⟨cur, h1, h2⟩ := h
  obtain ⟨c0, c1⟩ := h2 i m hm
  have l0 := (Array.getElem?_eq_some_iff.1 c0).1
  have l1 := (Array.getElem?_eq_some_iff.1 c1).1
  have hl := (List.getElem?_eq_some_iff.1 hm).1
  refine ⟨_, kb_set (kb_set h1 _) _, fun j x hx => ?_⟩
  rw [Array.getElem?_setIfInBounds, Array.getElem?_setIfInBounds, Array.getElem?_setIfInBounds, Array.getElem?_setIfInBounds]
  simp only [Array.size_setIfInBounds]
  by_cases e : i = j
  · subst e
    rw [List.getElem?_set_self hl] at hx
    injection hx with hx
    subst hx
    rw [if_neg (by omega), if_pos rfl, if_pos l0, if_pos rfl, if_pos l1]
    exact ⟨rfl, rfl⟩
  · rw [List.getElem?_set_ne e] at hx
    rw [if_neg (by omega), if_neg (by omega), if_neg (by omega), if_neg (by omega)]
    exact h2 j x hx
theorem SAt.set (h : SAt w b st) {i : Nat} {k : Int} (hk : st[i]? = some k) (z : Int) : SAt (w.setCell ⟨b, i, none⟩ (.int .i64 z)) b (st.set i z) := by
  obtain ⟨cur, h1, h2⟩ := h
  have c0 := h2 i k hk
  have l0 := (Array.getElem?_eq_some_iff.1 c0).1
  have hl := (List.getElem?_eq_some_iff.1 hk).1
  refine ⟨_, kb_set h1 _, fun j x hx => ?_⟩
  rw [Array.getElem?_setIfInBounds]
  by_cases e : i = j
  · subst e
    rw [List.getElem?_set_self hl] at hx
    injection hx with hx
    subst hx
    rw [if_pos rfl, if_pos l0]
  · rw [List.getElem?_set_ne e] at hx
    rw [if_neg e]
    exact h2 j x hx
end
theorem MAt.of_own {w : World} {B n : Nat} {v : Value} {ms : List Mr} (h : w.ownsRow B 33 2 v n (mcs ms)) (hp : 0 < ms.length) : ∃ b cap, v = .slice (some ⟨b, 0, none⟩) ms.length cap ∧ MAt w b ms ∧ B ≤ b := by
  have hl : n = ms.length := by have := h.1; rw [mcs_len] at this; omega
  subst hl
  rcases h.2 with ⟨rfl, h0⟩ | ⟨g, cap, cur, rfl, hg, hh, _, _, _, ht⟩
  · omega
  · refine ⟨g, cap, rfl, ⟨cur, hh, fun i m hm => ?_⟩, hg⟩
    obtain ⟨h1, h2⟩ := mcs_at ms i m hm
    have at_ : ∀ (j : Nat) (u : Value), (mcs ms)[j]? = some u → cur[j]? = some u := by
      intro j u hu
      rw [← Array.getElem?_toList]
      rw [← ht, List.getElem?_take] at hu
      split at hu
      · exact hu
      · cases hu
    exact ⟨at_ _ _ h1, at_ _ _ h2⟩
theorem keep_set2 (w : World) (b i j : Nat) (u v : Value) : Keep (fun x => x = b) w ((w.setCell ⟨b, i, none⟩ u).setCell ⟨b, j, none⟩ v) := (Keep.set (S := fun x => x = b) (p := ⟨b, i, none⟩) (Keep.refl _ _) (fun _ => rfl) u).set (p := ⟨b, j, none⟩) (fun _ => rfl) v
/-- What was counted. -/
structure Cnt (X : List Pr) (ms : List Mr) (st : List Int) (c : Int) : Prop where
  l1 : ms.length = X.length
  l2 : st.length = X.length
  at_ : ∀ (i : Nat) (x : Pr), X[i]? = some x → ∃ m : Mr, ms[i]? = some m ∧ x.s = m.s ∧ canon x.p = canon m.p ∧ st[i]? = some x.strikes ∧ 0 ≤ x.strikes ∧ x.strikes ≤ c ∧ okS x.s = true
theorem Cnt.mono {X : List Pr} {ms : List Mr} {st : List Int} {c d : Int} (h : Cnt X ms st c) (hd : c ≤ d) : Cnt X ms st d :=
  ⟨h.l1, h.l2, fun i x hx => by obtain ⟨m, h1, h2, h3, h4, h5, h6, h7⟩ := h.at_ i x hx; exact ⟨m, h1, h2, h3, h4, h5, by omega, h7⟩⟩
theorem Cnt.turn {X : List Pr} {ms : List Mr} {st : List Int} {c d : Int} (h : Cnt X ms st c) (hd : c ≤ d) {i : Nat} {x y : Pr} {m : Mr} (hx : X[i]? = some x) (e1 : y.s = m.s) (e2 : canon y.p = canon m.p) (e3 : 0 ≤ y.strikes) (e4 : y.strikes ≤ d) (e5 : okS y.s = true) : Cnt (X.set i y) (ms.set i m) (st.set i y.strikes) d := by
  have hl := (List.getElem?_eq_some_iff.1 hx).1
  refine ⟨by simp [h.l1], by simp [h.l2], fun j z hz => ?_⟩
  by_cases e : i = j
  · subst e
    rw [List.getElem?_set_self hl] at hz
    injection hz with hz
    subst hz
    exact ⟨m, List.getElem?_set_self (by rw [h.l1]; exact hl), e1, e2, List.getElem?_set_self (by rw [h.l2]; exact hl), e3, e4, e5⟩
  · rw [List.getElem?_set_ne e] at hz
    obtain ⟨m', h1, h2, h3, h4, h5, h6, h7⟩ := h.at_ j z hz
    exact ⟨m', by rw [List.getElem?_set_ne e]; exact h1, h2, h3, by rw [List.getElem?_set_ne e]; exact h4, h5, by omega, h7⟩
theorem set_same {α : Type} {L : List α} {i : Nat} {x : α} (h : L[i]? = some x) : L.set i x = L := by
  apply List.ext_getElem?
  intro j
  by_cases e : i = j
  · subst e; rw [List.getElem?_set_self (List.getElem?_eq_some_iff.1 h).1, h]
  · rw [List.getElem?_set_ne e]
theorem fill_at {wit : Int} {L : List Pr} : (k : Nat) → (i : Nat) → (x : Pr) → (fillL wit L k)[i]? = some x → ∃ y, L[i]? = some y ∧ x.s = y.s ∧ x.p = y.p ∧ x.strikes = y.strikes
  | 0, i, x, h => ⟨x, h, rfl, rfl, rfl⟩
  | k + 1, i, x, h => by
    simp only [fillL] at h
    split at h
    · obtain ⟨y, hy, e1, e2, e3⟩ := setR_at h
      obtain ⟨z, hz, f1, f2, f3⟩ := fill_at k i y hy
      exact ⟨z, hz, e1.trans f1, e2.trans f2, e3.trans f3⟩
    · exact fill_at k i x h
where
  setR_at {L : List Pr} {j i : Nat} {r : Int} {x : Pr} (h : (setR L j r)[i]? = some x) : ∃ y, L[i]? = some y ∧ x.s = y.s ∧ x.p = y.p ∧ x.strikes = y.strikes := by
    unfold setR upd at h
    split at h
    · exact ⟨x, h, rfl, rfl, rfl⟩
    · rename_i y hy
      by_cases e : j = i
      · subst e
        rw [List.getElem?_set_self (List.getElem?_eq_some_iff.1 hy).1] at h
        injection h with h
        subst h
        exact ⟨y, hy, rfl, rfl, rfl⟩
      · rw [List.getElem?_set_ne e] at h
        exact ⟨x, h, rfl, rfl, rfl⟩
theorem cnt_new {ms : List Mr} {wit : Int} {k : Nat} (h : okMs ms = true) : Cnt (fillL wit (nextL (newL ms)) k) ms (List.replicate ms.length 0) 0 := by
  have hl : (fillL wit (nextL (newL ms)) k).length = ms.length := by
    rw [fillL_len, ← newL_len ms]
    unfold nextL
    split
    · rw [setR_len]
    · rfl
  refine ⟨hl.symm, by simp [hl], fun i x hx => ?_⟩
  obtain ⟨y, hy, e1, e2, e3⟩ := fill_at k i x hx
  have hz : ∃ z, (newL ms)[i]? = some z ∧ y.s = z.s ∧ y.p = z.p ∧ y.strikes = z.strikes := by
    unfold nextL at hy
    split at hy
    · exact fill_at.setR_at hy
    · exact ⟨y, hy, rfl, rfl, rfl⟩
  obtain ⟨z, hz, f1, f2, f3⟩ := hz
  have hi : i < ms.length := by have := (List.getElem?_eq_some_iff.1 hx).1; omega
  obtain ⟨m, hm⟩ : ∃ m, ms[i]? = some m := ⟨_, List.getElem?_eq_getElem hi⟩
  have hzm : z = newP m := by
    unfold newL at hz
    rw [List.getElem?_map, hm] at hz
    injection hz with hz
    exact hz.symm
  subst hzm
  have hs0 : x.strikes = 0 := e3.trans f3
  exact ⟨m, hm, e1.trans f1, by rw [e2, f2]; rfl, by rw [hs0]; simp [hi], by omega, by omega, by rw [e1, f1]; exact List.all_eq_true.1 h m (List.mem_of_getElem? hm)⟩
theorem infoI' : (Try.prog.info? 3).map (fun i => (i.zero, i.size, i.bytes)) = some (some (.int .i64 0), 1, 8) := by kernel_rfl
theorem make_ints (n : Nat) (hn : n ≤ 1000) (W : World) : (Instr.makeSlice 25 (.int .i64 (n : Int)) (.int .i64 (n : Int))).run Try.prog W = .ok (.slice (some ⟨W.heap.size, 0, none⟩) n n) (W.alloc (.cells (Array.replicate n (.int .i64 0)) 3)) := by
  obtain ⟨i0, hi, hz0, hz1, hz2⟩ := info_parts infoI'
  have h := run_makeSlice (P := Try.prog) W 25 3 i0 (.int .i64 0) Try.underlying25 hi hz0 .i64 .i64 (n : Int) (n : Int) (by omega) (Int.le_refl _) (by rw [hz1, Int.toNat_natCast]; omega) (by rw [hz2]; omega) (by omega)
  rw [Int.toNat_natCast, hz1, Nat.mul_one] at h
  have e : madeCells (Value.int .i64 0).cells n = Array.replicate n (.int .i64 0) := by
    apply Array.toList_inj.1
    show (madeCells #[Value.int .i64 0] n).toList = _
    rw [toList_madeCells_one]
    simp
  rw [e] at h
  exact h
theorem SAt.made (W : World) (n : Nat) : SAt (W.alloc (.cells (Array.replicate n (.int .i64 0)) 3)) W.heap.size (List.replicate n 0) :=
  ⟨_, kb_new rfl _, fun i k hk => by
    rw [List.getElem?_replicate] at hk
    split at hk
    · injection hk with hk
      subst hk
      simp [*]
    · cases hk⟩
theorem merA_of {X : List Pr} {i : Nat} {x : Pr} (h : X[i]? = some x) : merA X i = x ∧ isP X i = true ∧ strikesI X i = x.strikes ∧ prA X i = x := by
  have hl := (List.getElem?_eq_some_iff.1 h).1
  have h1 : isP X i = true := by unfold isP; exact decide_eq_true (by omega)
  have h2 : prA X i = x := prA_of (by rw [Int.toNat_natCast]; exact h)
  exact ⟨by unfold merA; rw [h1, h2]; rfl, h1, by unfold strikesI; rw [h1, h2]; rfl, h2⟩
theorem strike_of {X : List Pr} {i : Nat} {x : Pr} (h : X[i]? = some x) (h0 : 0 ≤ x.strikes) (h1 : x.strikes < 1000) : strikeI X i = x.strikes + 1 ∧ strikeE X i = 0 ∧ strikeL X i = X.set i (struck x) ∧ (struck x).strikes = x.strikes + 1 := by
  obtain ⟨_, e1, _, e2⟩ := merA_of h
  have e3 : min 1000 (x.strikes + 1) = x.strikes + 1 := by omega
  unfold strikeI strikeE strikeL
  rw [e1, if_pos rfl, if_pos rfl, if_pos rfl, e2, Int.toNat_natCast, upd_some h, e3]
  exact ⟨rfl, rfl, rfl, e3⟩
theorem praise_of {X : List Pr} {i : Nat} {x : Pr} (h : X[i]? = some x) (t : Int) : praiseE X i t = goodE x.s t ∧ praiseL X i t = if okG x.s t then X.set i (praised t x) else X := by
  obtain ⟨_, e1, _, e2⟩ := merA_of h
  unfold praiseE praiseL
  rw [e1, if_pos rfl, e2, Bool.true_and, Int.toNat_natCast, upd_some h]
  exact ⟨rfl, rfl⟩
theorem goodE_no {s t : Int} (h : okG s t = false) : goodE s t = 3 := by unfold goodE; rw [h]; rfl
theorem goodE_yes {s t : Int} (h : okG s t = true) : goodE s t = 0 := by unfold goodE; rw [h]; rfl
/-- What is kept from round to round. -/
structure Cn (w : World) (q g bm bs n : Nat) (X : List Pr) (ms : List Mr) (st : List Int) (c : Int) : Prop where
  p : PQ w q g X
  m : MAt w bm ms
  s : SAt w bs st
  c : Cnt X ms st c
  l : X.length = n
theorem Cn.below {w w' : World} {q g bm bs n : Nat} {X : List Pr} {ms : List Mr} {st : List Int} {c : Int} (h : Cn w q g bm bs n X ms st c) (b : Below w.heap.size w w') : Cn w' q g bm bs n X ms st c := ⟨h.p.below b, h.m.below b, h.s.below b, h.c, h.l⟩
end Go.Proofs.Ytlnhofpjeinadaa
