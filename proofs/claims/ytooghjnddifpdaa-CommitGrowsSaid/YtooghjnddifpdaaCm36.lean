/- CommitGrows: the world of its loop; cuts of rows of votes; rows that came in. -/
import Derived.Test.YtooghjnddifpdaaCm35
import Derived.Test.YtooghjnddifpdaaCm25
import Derived.Test.YtooghjnddifpdaaOpenK
import Derived.Test.YtooghjnddifpdaaKit
namespace Go.Proofs.Ytooghjnddifpdaa
open Go.RowKit Go.Proofs.Ytooghjnddifpdaa.Cm BigFrame Go.ChangeShapes Go.WideShapes Go.Deep
set_option linter.unusedSimpArgs false
set_option linter.unusedVariables false

/-- Bools that came in. -/
def BoolRow (w : World) (A : Option Addr) (zs : List Bool) : Prop := 0 < zs.length → ∃ b off, A = some ⟨b, off, none⟩ ∧ b < w.heap.size ∧ ∀ i z, zs[i]? = some z → w.cell? ⟨b, off + i, none⟩ = some (.bool z)
theorem BoolRow.below {w w' : World} {A : Option Addr} {zs : List Bool} (h : BoolRow w A zs) (k : Below w.heap.size w w') : BoolRow w' A zs := fun h0 => by
  obtain ⟨b, off, e, hb, hc⟩ := h h0
  exact ⟨b, off, e, Nat.lt_of_lt_of_le hb k.size, fun i z hz => (k.cell (by exact hb)).trans (hc i z hz)⟩
/-- Ints that came in. -/
def IntRow (w : World) (A : Option Addr) (zs : List Int) : Prop := 0 < zs.length → ∃ b off, A = some ⟨b, off, none⟩ ∧ b < w.heap.size ∧ ∀ i z, zs[i]? = some z → w.cell? ⟨b, off + i, none⟩ = some (.int .i64 z)
theorem IntRow.below {w w' : World} {A : Option Addr} {zs : List Int} (h : IntRow w A zs) (k : Below w.heap.size w w') : IntRow w' A zs := fun h0 => by
  obtain ⟨b, off, e, hb, hc⟩ := h h0
  exact ⟨b, off, e, Nat.lt_of_lt_of_le hb k.size, fun i z hz => (k.cell (by exact hb)).trans (hc i z hz)⟩
section
variable {H : Type} {enc : TypeId × Value → H} {P : Program} {w : World} {base : Nat} {spare : Nat → Bool} {held : Bool} {fuel : Nat} {x : DataW H × List MemPlace}
theorem open_bool_arg {t e : TypeId} {A : Option Addr} {len cap : Nat} (ht : P.underlying t = some (.slice e)) (he : P.underlying e = some .bool) (hC : P.cellsOf e = 1) (h : DataW.trod enc P w base spare held fuel t (Value.slice A len cap).cells.toList = some x) :
    ∃ zs : List Bool, zs.length = len ∧ BoolRow w A zs := by
  rcases open_slice ht h with ⟨h0, _⟩ | ⟨a, len', cap', m, n, D, Pl, hcs, hb, hl, hm, hmm, hx, hi⟩
  · simp [Value.cells] at h0
    exact ⟨[], by simp; omega, fun h => by simp at h⟩
  · simp [Value.cells] at hcs
    obtain ⟨rfl, rfl, rfl⟩ := hcs
    have hlm : len ≤ m := by rw [hmm]; split <;> omega
    have hc : ∀ i, i < len → ∃ z : Bool, w.cell? (a.add i) = some (.bool z) := fun i hil => by
      obtain ⟨cs', hcc, ht'⟩ := hi i (by omega)
      rw [hC, Nat.mul_one] at hcc
      obtain ⟨z, rfl, _⟩ := DataW.trod_bool he ht'
      obtain ⟨_, _, hat⟩ := World.cells?_some hcc
      have := hat 0 (by omega)
      have e0 : (a.add i).add 0 = a.add i := by
        unfold Addr.add; split <;> simp_all
      rw [e0] at this
      exact ⟨z, by simpa using this⟩
    obtain ⟨g, hg⟩ : ∃ g : Nat → Bool, ∀ i, i < len → w.cell? (a.add i) = some (.bool (g i)) := ⟨fun i => if h : i < len then (hc i h).choose else false, fun i hi => by simp only [dif_pos hi]; exact (hc i hi).choose_spec⟩
    refine ⟨(List.range len).map g, by simp, fun h0 => ?_⟩
    have h0 : 0 < len := by simpa using h0
    obtain ⟨b, off, spot⟩ := a
    have hz := hg 0 h0
    have hspot : spot = none := by
      have := World.cell?_spot hz
      cases spot with
      | none => rfl
      | some s => simp [Addr.add] at this
    subst hspot
    rw [addr_add] at hz
    refine ⟨b, off, rfl, World.block_lt_of_cell? w _ hz, fun i z hiz => ?_⟩
    have hi : i < len := by have := (List.getElem?_eq_some_iff.1 hiz).1; simpa using this
    have := hg i hi
    rw [addr_add] at this
    rw [this]
    simp [hi] at hiz
    rw [hiz]
end

/-- Votes of a commit. -/
theorem run_part_votes (W : World) {cs : Array Value} {off : Nat} {v : Value} (h : cs[off]? = some v) : (part 24 cs off).run Try.prog W = .ok v W := by
  unfold part isAgg
  simp [run_underlying Try.underlying24, h]
theorem run_field2 (W : World) {c : C} {v : Value} (hx : c.x.length = 32) (hv : v.oneCell' = true) : (Instr.field 26 (.agg (ccs c v).toArray) 2).run Try.prog W = .ok v W := by
  unfold Instr.field
  simp only [Sem.run_bind, run_underlying Try.underlying26 W, Result.andThen_ok]
  exact run_part_votes W (by have := ccs_33 hx v; simpa using this)
theorem wpList_field2 {ops : Array Oper} {rest : List Oper} {op : Oper} {s : Act} {w : World} {Q : Exit → Act → World → Prop} (hgd : op.guard = none) (x : Operand) (ho : op.op = .field 26 x 2) {c : C} {v : Value} (hx : s.eval x = .agg (ccs c v).toArray) (hc : c.x.length = 32) (hv : v.oneCell' = true)
    (hk : wpList Try.prog ops Q rest (s.put op.dst v) w) : wpList Try.prog ops Q (op :: rest) s w :=
  wpList_plain hgd fun K hK => by
    have hr := run_field2 w hc hv
    unfold Oper.wp execOp
    simp only [ho, hx, Sem.run_bind, hr, Result.andThen_ok]
    exact hK _ _ hk

/-- What a slice of votes is cut to. -/
def cutV (A : Option Addr) (cap lo : Nat) : Option Addr := if cap = lo then A else A.map (·.add (lo * 2))
theorem elem_v : Try.prog.underlying 24 = some (.slice (Try.prog.elem 24)) := by kernel_rfl
theorem run_cutl {A : Option Addr} {n cap lo : Nat} (h1 : lo ≤ n) (W : World) :
    (Instr.sliceAt 24 (.slice A n cap) (some (.int .i64 (lo : Int))) none none).run Try.prog W = .ok (.slice (cutV A cap lo) (n - lo) (cap - lo)) W := by
  have he : Try.prog.elem 24 = 29 := by kernel_rfl
  obtain ⟨i, hq, _, hs, _⟩ := info_parts infoV
  · rw [run_sliceAt_slice W 24 _ _ _ _ elem_v, run_slice_l W 24 A n cap elem_v .i64 lo (by omega) (by omega)]
    simp only [he, sizeOf, typeInfo, Sem.run_bind]
    simp [hq, hs, sliced, cutV]
theorem run_cuth {A : Option Addr} {n cap hi : Nat} (h2 : hi ≤ cap) (W : World) :
    (Instr.sliceAt 24 (.slice A n cap) none (some (.int .i64 (hi : Int))) none).run Try.prog W = .ok (.slice (cutV A cap 0) (hi - 0) (cap - 0)) W := by
  have he : Try.prog.elem 24 = 29 := by kernel_rfl
  obtain ⟨i, hq, _, hs, _⟩ := info_parts infoV
  · rw [run_sliceAt_slice W 24 _ _ _ _ elem_v, run_slice_h W 24 A n cap elem_v .i64 hi (by omega) (by omega)]
    simp only [he, sizeOf, typeInfo, Sem.run_bind]
    simp [hq, hs, sliced, cutV]
theorem yieldsIf_cutl {ops : Array Oper} {S : World → Prop} {op : Oper} {a : Act} (hw : Region.wanted op (yielded ops a.tmps) = true) (x l : Operand) (ho : op.op = .slice 24 x (some l) none none) {A : Option Addr} {n cap lo : Nat}
    (hx : a.eval x = .slice A n cap) (hh : a.eval l = .int .i64 (lo : Int)) (h1 : lo ≤ n) : YieldsIf Try.prog ops S op (.slice (cutV A cap lo) (n - lo) (cap - lo)) a :=
  .inl ⟨hw, fun w _ => by
    unfold execOp
    simp only [ho, hx, hh, Option.map_some, Option.map_none, Sem.run_bind, run_cutl (A := A) (cap := cap) h1 w, Result.andThen_ok, Sem.run_pure]⟩
theorem yieldsIf_cuth {ops : Array Oper} {S : World → Prop} {op : Oper} {a : Act} (hw : Region.wanted op (yielded ops a.tmps) = true) (x h : Operand) (ho : op.op = .slice 24 x none (some h) none) {A : Option Addr} {n cap hi : Nat}
    (hx : a.eval x = .slice A n cap) (hh : a.eval h = .int .i64 (hi : Int)) (h2 : hi ≤ cap) : YieldsIf Try.prog ops S op (.slice (cutV A cap 0) (hi - 0) (cap - 0)) a :=
  .inl ⟨hw, fun w _ => by
    unfold execOp
    simp only [ho, hx, hh, Option.map_some, Option.map_none, Sem.run_bind, run_cuth (A := A) (n := n) h2 w, Result.andThen_ok, Sem.run_pure]⟩
theorem cut_votes {w : World} {A : Option Addr} {cap lo hi : Nat} {l : List Vt} (hB : VRow w (.slice A l.length cap) l) (hc : l.length ≤ cap) (h1 : lo ≤ hi) (h2 : hi ≤ l.length) :
    VRow w (.slice (cutV A cap lo) (hi - lo) (cap - lo)) ((l.drop lo).take (hi - lo)) := by
  obtain ⟨A', c', e, hcell⟩ := hB
  injection e with e1 e2 e3
  subst e1; subst e3
  have hl : ((l.drop lo).take (hi - lo)).length = hi - lo := by rw [List.length_take, List.length_drop]; omega
  refine ⟨cutV A cap lo, cap - lo, by rw [hl], fun h0 => ?_⟩
  rw [hl] at h0
  obtain ⟨g, off, rfl, hg, hh⟩ := hcell (by omega)
  refine ⟨g, off + lo * 2, ?_, hg, fun j m hm => ?_⟩
  · unfold cutV
    rw [if_neg (by omega), Option.map_some, addr_add]
  · rw [List.getElem?_take] at hm
    split at hm
    · rw [List.getElem?_drop] at hm
      have := hh _ _ hm
      rw [show off + lo * 2 + j * 2 = off + (lo + j) * 2 by omega]
      exact this
    · cases hm
theorem own_cap {w : World} {B n c : Nat} {A : Option Addr} {xs : List Value} (h : w.ownsRow B 29 2 (.slice A n c) n xs) : n ≤ c := by
  rcases h.2 with ⟨e, h1⟩ | ⟨g, cap, cur, e, hB, hh, hn, _⟩
  · injection e with e1 e2 e3; omega
  · injection e with e1 e2 e3; omega

abbrev Vown (B : Nat) (W : World) (v : Value) (l : List Vt) : Prop := W.ownsRow B 29 2 v l.length (vcs l)
abbrev Cb (W : World) (q : Nat) (c : C) (v : Value) : Prop := W.heap[q]? = some (.cells (ccs c v).toArray 26 (0, 0))
/-- The world of the loop. -/
structure Gw (w W : World) (c : C) (u : Value) (q1 q2 q3 : Nat) (lv va vb vd : Value) (left al a b : List Vt) : Prop where
  c0 : Cb W w.heap.size c u
  e1 : Cb W q1 ⟨c.h, c.x, al⟩ va
  e2 : Cb W q2 ⟨c.h, c.x, a⟩ vb
  e3 : Cb W q3 ⟨c.h, c.x, b⟩ vd
  rl : Vown w.heap.size W lv left
  r1 : Vown w.heap.size W va al
  r2 : Vown w.heap.size W vb a
  r3 : Vown w.heap.size W vd b
  k : Below w.heap.size w W
  lt : w.heap.size < q1 ∧ w.heap.size < q2 ∧ w.heap.size < q3 ∧ q1 ≠ q2 ∧ q1 ≠ q3 ∧ q2 ≠ q3
theorem Vown.below' {B : Nat} {W W' : World} {v : Value} {l : List Vt} (h : Vown B W v l) (k : Below W.heap.size W W') : Vown B W' v l := (Keep.of_below (S := fun _ => False) k).row h (fun _ _ e => e)
theorem Gw.below {w W W' : World} {c : C} {u : Value} {q1 q2 q3 : Nat} {lv va vb vd : Value} {left al a b : List Vt} (H : Gw w W c u q1 q2 q3 lv va vb vd left al a b) (k : Below W.heap.size W W') : Gw w W' c u q1 q2 q3 lv va vb vd left al a b :=
  ⟨kb_below k H.c0, kb_below k H.e1, kb_below k H.e2, kb_below k H.e3, H.rl.below' k, H.r1.below' k, H.r2.below' k, H.r3.below' k, bl_then H.k k, H.lt⟩
theorem Vown.keep' {B : Nat} {W W' : World} {v : Value} {l : List Vt} {q : Nat} {c : C} {u : Value} (h : Vown B W v l) (hq : Cb W q c u) (k : Keep (fun x => x = q) W W') : Vown B W' v l :=
  k.row h (fun b hb e => own_ne h hq (by decide) (by rw [hb, e]))
theorem Gw.left {w W : World} {c : C} {u : Value} {q1 q2 q3 : Nat} {lv va vb vd : Value} {left al a b : List Vt} (H : Gw w W c u q1 q2 q3 lv va vb vd left al a b) {lv' : Value} {left' : List Vt} (h : Vown w.heap.size W lv' left') : Gw w W c u q1 q2 q3 lv' va vb vd left' al a b :=
  ⟨H.c0, H.e1, H.e2, H.e3, h, H.r1, H.r2, H.r3, H.k, H.lt⟩
theorem Gw.set1 {w W W' : World} {c : C} {u : Value} {q1 q2 q3 : Nat} {lv va vb vd : Value} {left al a b : List Vt} (H : Gw w W c u q1 q2 q3 lv va vb vd left al a b) {va' : Value} {al' : List Vt} (hq : Cb W' q1 ⟨c.h, c.x, al'⟩ va') (hr : Vown w.heap.size W va' al') (k : Keep (fun x => x = q1) W W') : Gw w W' c u q1 q2 q3 lv va' vb vd left al' a b :=
  ⟨k.kb H.c0 (by have := H.lt; omega), hq, k.kb H.e2 (by have := H.lt; omega), k.kb H.e3 (by have := H.lt; omega), H.rl.keep' H.e1 k, hr.keep' H.e1 k, H.r2.keep' H.e1 k, H.r3.keep' H.e1 k, ((Keep.of_below (S := fun _ => False) H.k).trans k (fun b hb e => by have := H.lt; omega)).below (Nat.le_refl _) (fun b e => e.elim), H.lt⟩
theorem Gw.set2 {w W W' : World} {c : C} {u : Value} {q1 q2 q3 : Nat} {lv va vb vd : Value} {left al a b : List Vt} (H : Gw w W c u q1 q2 q3 lv va vb vd left al a b) {v' : Value} {l' : List Vt} (hq : Cb W' q2 ⟨c.h, c.x, l'⟩ v') (hr : Vown w.heap.size W v' l') (k : Keep (fun x => x = q2) W W') : Gw w W' c u q1 q2 q3 lv va v' vd left al l' b :=
  ⟨k.kb H.c0 (by have := H.lt; omega), k.kb H.e1 (by have := H.lt; omega), hq, k.kb H.e3 (by have := H.lt; omega), H.rl.keep' H.e2 k, H.r1.keep' H.e2 k, hr.keep' H.e2 k, H.r3.keep' H.e2 k, ((Keep.of_below (S := fun _ => False) H.k).trans k (fun b hb e => by have := H.lt; omega)).below (Nat.le_refl _) (fun b e => e.elim), H.lt⟩
theorem Gw.set3 {w W W' : World} {c : C} {u : Value} {q1 q2 q3 : Nat} {lv va vb vd : Value} {left al a b : List Vt} (H : Gw w W c u q1 q2 q3 lv va vb vd left al a b) {v' : Value} {l' : List Vt} (hq : Cb W' q3 ⟨c.h, c.x, l'⟩ v') (hr : Vown w.heap.size W v' l') (k : Keep (fun x => x = q3) W W') : Gw w W' c u q1 q2 q3 lv va vb v' left al a l' :=
  ⟨k.kb H.c0 (by have := H.lt; omega), k.kb H.e1 (by have := H.lt; omega), k.kb H.e2 (by have := H.lt; omega), hq, H.rl.keep' H.e3 k, H.r1.keep' H.e3 k, H.r2.keep' H.e3 k, hr.keep' H.e3 k, ((Keep.of_below (S := fun _ => False) H.k).trans k (fun b hb e => by have := H.lt; omega)).below (Nat.le_refl _) (fun b e => e.elim), H.lt⟩
theorem size34 (c : C) (v : Value) (h : c.x.length = 32) : (ccs c v).toArray.size = 34 := by simpa using ccs_len h v
end Go.Proofs.Ytooghjnddifpdaa
