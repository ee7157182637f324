/- What the blocks' walks lean on: message words, copies, the iterator over the table. -/
import Derived.Test.YtmfajippoielhaaDoorBlSh
import Derived.Test.YtmfajippoielhaaDoorBl3
import Derived.Deep.RegionLaw
import Derived.Laws.IdiomCopy
import Derived.Laws.RangeAny
namespace Go.Proofs.YtmfajippoielhaaDoor
open Go.RowKit Go.Proofs.YtmfajippoielhaaDoor.Bl
set_option linter.unusedSimpArgs false
set_option linter.unusedVariables false
attribute [local go_sem] cell_alloc_some frozen_alloc_some

/-- The words of a message so far. -/
def mAt (bs : List UInt8) (i k j : Nat) : W := if j < i then wd bs j else if j = i then wdN bs i k else 0
def mSt (bs : List UInt8) (i k : Nat) : List W := (List.range 16).map (mAt bs i k)
theorem mSt_len (bs : List UInt8) (i k : Nat) : (mSt bs i k).length = 16 := by simp [mSt]
theorem mSt_at (bs : List UInt8) (i k : Nat) {j : Nat} (h : j < 16) : wAt (mSt bs i k) j = mAt bs i k j := by
  unfold mSt
  rw [wAt, List.getD_eq_getElem?_getD, List.getElem?_map, List.getElem?_range h]; rfl
theorem ext_w {l m : List W} (hl : l.length = m.length) (h : ∀ j, j < l.length → wAt l j = wAt m j) : l = m := by
  apply List.ext_getElem?
  intro j
  by_cases hj : j < l.length
  · have := h j hj
    unfold wAt at this
    rw [List.getD_eq_getElem?_getD, List.getD_eq_getElem?_getD, List.getElem?_eq_getElem hj, List.getElem?_eq_getElem (by omega)] at this
    rw [List.getElem?_eq_getElem hj, List.getElem?_eq_getElem (by omega)]
    simpa using this
  · rw [List.getElem?_eq_none (by omega), List.getElem?_eq_none (by omega)]
theorem wAt_set (l : List W) (i : Nat) (x : W) (j : Nat) (hj : j < l.length) : wAt (l.set i x) j = if i = j then x else wAt l j := by
  unfold wAt
  rw [List.getD_eq_getElem?_getD, List.getD_eq_getElem?_getD, List.getElem?_set]
  by_cases e : i = j
  · subst e; simp [hj]
  · simp [e]
theorem mSt_set (bs : List UInt8) {i k : Nat} (hi : i < 16) : (mSt bs i k).set i (wdN bs i (k + 1)) = mSt bs i (k + 1) := by
  refine ext_w (by simp [mSt_len]) fun j hj => ?_
  have hj' : j < 16 := by simpa [mSt_len] using hj
  rw [wAt_set _ _ _ _ (by rw [mSt_len]; exact hj'), mSt_at _ _ _ hj', mSt_at _ _ _ hj']
  unfold mAt
  by_cases e : i = j
  · subst e; simp
  · rw [if_neg e, if_neg (c := j = i) (fun h => e h.symm), if_neg (c := j = i) (fun h => e h.symm)]
theorem mSt_next (bs : List UInt8) {i : Nat} (hi : i < 16) : mSt bs i 4 = mSt bs (i + 1) 0 := by
  refine ext_w (by simp [mSt_len]) fun j hj => ?_
  have hj' : j < 16 := by simpa [mSt_len] using hj
  rw [mSt_at _ _ _ hj', mSt_at _ _ _ hj']
  unfold mAt
  by_cases e : j < i
  · rw [if_pos e, if_pos (by omega)]
  · by_cases e2 : j = i
    · subst e2; rw [if_neg e, if_pos rfl, if_pos (by omega)]; rfl
    · rw [if_neg e, if_neg e2, if_neg (by omega)]
      split <;> rfl
theorem mSt_end (bs : List UInt8) : mSt bs 16 0 = msg bs := by
  refine ext_w (by simp [mSt_len, msg_len]) fun j hj => ?_
  have hj' : j < 16 := by simpa [mSt_len] using hj
  rw [mSt_at _ _ _ hj', msg_at _ hj']
  unfold mAt; rw [if_pos hj']
theorem mSt_zero (bs : List UInt8) : mSt bs 0 0 = List.replicate 16 0 := by
  refine ext_w (by simp [mSt_len]) fun j hj => ?_
  have hj' : j < 16 := by simpa [mSt_len] using hj
  rw [mSt_at _ _ _ hj']
  unfold mAt wAt; rw [if_neg (by omega), List.getD_eq_getElem?_getD, List.getElem?_replicate, if_pos hj']; simp [wdN]
theorem mSt_i (bs : List UInt8) {i : Nat} (k : Nat) (hi : i < 16) : wAt (mSt bs i k) i = wdN bs i k := by
  rw [mSt_at _ _ _ hi]; unfold mAt; rw [if_neg (by omega), if_pos rfl]
theorem shB_val (c : UInt8) {k : Nat} (hk : k < 4) : (shB c k).toNat = c.toNat * 2 ^ (8 * k) := by
  unfold shB
  have hc := c.toNat_lt
  rw [UInt32.toNat_ofNat', Nat.mod_eq_of_lt]
  have : ∀ k : Fin 4, (2 : Nat) ^ (8 * k.1) ≤ 16777216 := by decide
  have h2 := this ⟨k, hk⟩
  calc c.toNat * 2 ^ (8 * k) ≤ 255 * 16777216 := Nat.mul_le_mul (by omega) h2
    _ < 2 ^ 32 := by decide
theorem or_val (x : W) (c : UInt8) {k : Nat} (hk : k < 4) (z : Int) (hz : z = (c.toNat : Int) * ((2 ^ (8 * k) : Nat) : Int)) : bits .or .u32 (x.toNat : Int) z = ((x ||| shB c k).toNat : Int) := by
  have h := shB_val c hk
  have e : z = ((shB c k).toNat : Int) := by rw [hz, h, Int.natCast_mul]
  rw [e, w_or]

/-- A block's variables. -/
structure Bk (w W : World) (hb t : Nat) (cs : List Value) (M V : List UInt32) : Prop where
  hh : Cs W hb t cs
  m : Ws W w.heap.size 65 M
  v : Ws W (w.heap.size + 1) 65 V
  k : Below w.heap.size w W
  lt : hb < w.heap.size
theorem Bk.below {w W W' : World} {hb t : Nat} {cs : List Value} {M V : List UInt32} (h : Bk w W hb t cs M V) (k : Below W.heap.size W W') : Bk w W' hb t cs M V :=
  ⟨h.hh.below k, h.m.below k, h.v.below k, bl_then h.k k, h.lt⟩
theorem Bk.setm {w W W' : World} {hb t : Nat} {cs : List Value} {M M' V : List UInt32} (h : Bk w W hb t cs M V) (hm : Ws W' w.heap.size 65 M') (k : Keep (fun c => c = w.heap.size) W W') : Bk w W' hb t cs M' V :=
  ⟨h.hh.keep k (by have := h.lt; omega), hm, h.v.keep k (by omega), ((Keep.of_below (S := fun _ => False) h.k).trans k (fun b hb e => by omega)).below (Nat.le_refl _) (fun b e => e.elim), h.lt⟩
theorem Bk.setv {w W W' : World} {hb t : Nat} {cs : List Value} {M V V' : List UInt32} (h : Bk w W hb t cs M V) (hv : Ws W' (w.heap.size + 1) 65 V') (k : Keep (fun c => c = w.heap.size + 1) W W') : Bk w W' hb t cs M V' :=
  ⟨h.hh.keep k (by have := h.lt; omega), h.m.keep k (by omega), hv, ((Keep.of_below (S := fun _ => False) h.k).trans k (fun b hb e => by omega)).below (Nat.le_refl _) (fun b e => e.elim), h.lt⟩
theorem Bk.putm {w W : World} {hb t : Nat} {cs : List Value} {M V : List UInt32} (h : Bk w W hb t cs M V) (i : Nat) (x : UInt32) : Bk w (W.setCell ⟨w.heap.size, i, none⟩ (wv x)) hb t cs (M.set i x) V :=
  h.setm (h.m.put i x) ((Keep.refl (fun c => c = w.heap.size) W).set (p := ⟨w.heap.size, i, none⟩) (fun _ => rfl) _)
theorem Bk.putv {w W : World} {hb t : Nat} {cs : List Value} {M V : List UInt32} (h : Bk w W hb t cs M V) (i : Nat) (x : UInt32) : Bk w (W.setCell ⟨w.heap.size + 1, i, none⟩ (wv x)) hb t cs M (V.set i x) :=
  h.setv (h.v.put i x) ((Keep.refl (fun c => c = w.heap.size + 1) W).set (p := ⟨w.heap.size + 1, i, none⟩) (fun _ => rfl) _)
theorem Bk.drew {w W : World} {hb t : Nat} {cs : List Value} {M V : List UInt32} (h : Bk w W hb t cs M V) : Bk w W.drew hb t cs M V := h.below (bl_drew (Below.refl _ _))

theorem Bk.keep {w W W' : World} {hb t : Nat} {cs : List Value} {M V : List UInt32} {it : Nat} (h : Bk w W hb t cs M V) (k : Keep (fun c => c = it) W W') (hit : w.heap.size + 2 ≤ it) : Bk w W' hb t cs M V :=
  ⟨h.hh.keep k (by have := h.lt; omega), h.m.keep k (by omega), h.v.keep k (by omega), ((Keep.of_below (S := fun _ => False) h.k).trans k (fun b hb e => by omega)).below (Nat.le_refl _) (fun b e => e.elim), h.lt⟩
theorem updC_mid (A B C vs : List Value) (h : B.length = vs.length) : updC (A ++ (B ++ C)).toArray A.length vs = (A ++ (vs ++ C)).toArray := by
  apply Array.ext_getElem?
  intro j
  rw [updC_get _ _ _ (by simp; omega)]
  by_cases h1 : j < A.length
  · rw [if_neg (by omega)]
    simp [List.getElem?_append_left h1]
  · by_cases h2 : j < A.length + vs.length
    · rw [if_pos ⟨by omega, h2⟩]
      simp only [List.getElem?_toArray]
      rw [List.getElem?_append_right (by omega), List.getElem?_append_left (by omega)]
    · rw [if_neg (by omega)]
      simp only [List.getElem?_toArray]
      rw [List.getElem?_append_right (by omega), List.getElem?_append_right (by omega), List.getElem?_append_right (by omega), List.getElem?_append_right (by omega), h]
theorem sizeU32 : (Tryd.prog.info? 32).map (·.size) = some 1 := by kernel_rfl
/-- copy of words: all is read before anything is written. -/
theorem run_copy_w (w : World) (ty b o dLen dCap : Nat) (a : Addr) (sLen sCap : Nat) (cs : List Value) (hn : cs.length = Nat.min sLen dLen)
    (hsrc : ∀ j v, cs[j]? = some v → w.cell? (a.add j) = some v) (hc : ∀ j, j < cs.length → (w.cell? ⟨b, o + j, none⟩).isSome = true) (hf : ∀ j, j < cs.length → w.frozen? ⟨b, o + j, none⟩ = false) (h1 : ∀ v ∈ cs, v.oneCell' = true) :
    (Builtin.copy_ #[71, 71] ty #[.slice (some ⟨b, o, none⟩) dLen dCap, .slice (some a) sLen sCap]).run Tryd.prog w = .ok (goInt (Nat.min sLen dLen)) (w.setCells b o cs) := by
  have hl := run_loadCells_list (P := Tryd.prog) w a cs hsrc
  have hst := run_storeCells_cells (P := Tryd.prog) b o cs 0 w (by simpa using hc) (by simpa using hf) h1
  have hs := sizeU32
  cases hq : Tryd.prog.info? 32 with
  | none => simp [hq] at hs
  | some i =>
    have hi : i.size = 1 := by simpa [hq] using hs
    rw [hn] at hl
    simp [Builtin.copy_, run_underlying Tryd.underlying71, Builtin.lenOf, Builtin.firstCells, sizeOf, typeInfo, hq, hi, hl, hst]
theorem step_copy_w {ops : Array Oper} {o : Oper} {a : Act} {w : World} {K : Act → World → Prop} {Q : Exit → Act → World → Prop} {E : Prop}
    (hg : o.guard = none) (d x : Operand) (hop : o.op = Op.call { callee := Callee.builtin Builtin.copy, args := #[d, x], argTypes := #[71, 71] })
    (v u : Value) (hd : a.eval d = v) (hx : a.eval x = u) {v' : Value} {w' : World} (hr : ∀ ty, (Builtin.copy_ #[71, 71] ty #[v, u]).run Tryd.prog w = .ok v' w') (hK : K (a.put o.dst v') w') :
    if Region.wanted o (yielded ops a.tmps) = true then Oper.wp Tryd.prog o a w K Q else E := by
  have hw : Region.wanted o (yielded ops a.tmps) = true := by simp [Region.wanted, hg]
  rw [if_pos hw]
  unfold Oper.wp
  simp [execOp, hop, resolve, invoke, builtin, hd, hx, hr, Result.andThen]
  exact hK
/-- Eight words are copied into the sixteen. -/
theorem Bk.copy {w wa : World} {hb t : Nat} {cs : List Value} {M : List UInt32} {A B D h : List UInt32} (H : Bk w wa hb t cs M (A ++ (B ++ D))) (sb so dCap : Nat) (hs : wa.rangeAt sb so (wvs h)) (hB : B.length = 8) (hh : h.length = 8) :
    ∃ W', (∀ ty, (Builtin.copy_ #[71, 71] ty #[.slice (some ⟨w.heap.size + 1, A.length, none⟩) 8 dCap, .slice (some ⟨sb, so, none⟩) 8 8]).run Tryd.prog wa.drew = .ok (goInt 8) W') ∧ Bk w W' hb t cs M (A ++ (h ++ D)) ∧ Keep (fun c => c = w.heap.size + 1) wa W' := by
  have hl : (wvs h).length = 8 := by rw [wvs_len, hh]
  have hV := H.drew.v
  have hsz : (wvs (A ++ (B ++ D))).length = A.length + (8 + D.length) := by rw [wvs_len]; simp [hB]
  have hz : (wvs (A ++ (B ++ D))).toArray.size = A.length + (8 + D.length) := by simpa using hsz
  have K1 : Keep (fun c => c = w.heap.size + 1) wa (wa.drew.setCells (w.heap.size + 1) A.length (wvs h)) := keep_cells _ _ ((Keep.refl _ wa).drew) (fun _ => rfl)
  refine ⟨wa.drew.setCells (w.heap.size + 1) A.length (wvs h), fun ty => run_copy_w wa.drew ty (w.heap.size + 1) A.length 8 dCap ⟨sb, so, none⟩ 8 8 (wvs h) (by rw [hl]; rfl) (fun j v hj => ?_) (fun j hj => ?_) (fun j hj => kb_frozen hV _) (wvs_one h), ?_, K1⟩
  · rw [addr_add]; exact hs j v hj
  · rw [hl] at hj
    rw [kb_cell hV, Array.getElem?_eq_getElem (by rw [hz]; omega)]; rfl
  · refine H.setv ?_ K1
    have e := setCells_at (wvs h) wa.drew _ A.length hV
    have e2 : updC (wvs (A ++ (B ++ D))).toArray A.length (wvs h) = (wvs (A ++ (h ++ D))).toArray := by
      have := updC_mid (wvs A) (wvs B) (wvs D) (wvs h) (by rw [wvs_len, hl, hB])
      rw [wvs_len] at this
      simpa [wvs] using this
    rw [e2] at e
    exact e
/-- The table of the program. -/
def rowsS : ByteArray := ⟨#[48, 49, 50, 51, 52, 53, 54, 55, 56, 57, 97, 98, 99, 100, 101, 102, 101, 97, 52, 56, 57, 102, 100, 54, 49, 99, 48, 50, 98, 55, 53, 51, 98, 56, 99, 48, 53, 50, 102, 100, 97, 101, 51, 54, 55, 49, 57, 52, 55, 57, 51, 49, 100, 99, 98, 101, 50, 54, 53, 97, 52, 48, 102, 56, 57, 48, 53, 55, 50, 52, 97, 102, 101, 49, 98, 99, 54, 56, 51, 100, 50, 99, 54, 97, 48, 98, 56, 51, 52, 100, 55, 53, 102, 101, 49, 57, 99, 53, 49, 102, 101, 100, 52, 97, 48, 55, 54, 51, 57, 50, 56, 98, 100, 98, 55, 101, 99, 49, 51, 57, 53, 48, 102, 52, 56, 54, 50, 97, 54, 102, 101, 57, 98, 51, 48, 56, 99, 50, 100, 55, 49, 52, 97, 53, 97, 50, 56, 52, 55, 54, 49, 53, 102, 98, 57, 101, 51, 99, 100, 48]⟩
theorem rows_size : rowsS.size = 160 := by decide +kernel
theorem rows_at (q : Nat) (hq : q < 160) : (rowsS[q]'(by rw [rows_size]; exact hq)).toNat < 128 ∧ Lib.indexByte hexS.data.toList ((((rowsS[q]'(by rw [rows_size]; exact hq)).toNat : Nat) : Int).toNat.toUInt8) = (sg (q / 16) (q % 16) : Int) := by
  have : ∀ q : Fin 160, (rowsS[q.1]'(by rw [rows_size]; exact q.2)).toNat < 128 ∧ Lib.indexByte hexS.data.toList ((((rowsS[q.1]'(by rw [rows_size]; exact q.2)).toNat : Nat) : Int).toNat.toUInt8) = (sg (q.1 / 16) (q.1 % 16) : Int) := by decide +kernel
  exact this ⟨q, hq⟩
/-- An iterator over the table, at a place. -/
def It (w : World) (k q : Nat) : Prop := w.heap[k]? = some (.stringIter rowsS q)
theorem It.pos {w : World} {k q : Nat} (h : It w k q) : w.iterPos k = q := by unfold World.iterPos; rw [h]
theorem It.keep {w w' : World} {k q : Nat} {S : Nat → Prop} (h : It w k q) (kk : Keep S w w') (hn : ¬ S k) : It w' k q := kk.kb h hn
theorem It.below {w w' : World} {k q : Nat} (h : It w k q) (kk : Below w.heap.size w w') : It w' k q := kb_below kk h
theorem It.next {w : World} {k q : Nat} (h : It w k q) (hq : q < 160) : ∃ w', (∀ ty, (Instr.next (.pointer (some ⟨k, 0, none⟩)) true ty).run Tryd.prog w = .ok (.tuple #[.bool true, .int .i64 q, .int .i32 ((rowsS[q]'(by rw [rows_size]; exact hq)).toNat : Int)]) w') ∧ It w' k (q + 1) ∧ Keep (fun c => c = k) w w' := by
  have hs : q < rowsS.size := by rw [rows_size]; exact hq
  have ha := (rows_at q hq).1
  have hk := kb_lt h
  have h' : w.heap[k]? = some (.stringIter rowsS q) := h
  refine ⟨{ w with heap := w.heap.setIfInBounds k (.stringIter rowsS (q + 1)) }, fun ty => ?_, ?_, ?_⟩
  · simp only [Instr.next, getObj, setObj, Sem.run_bind, Sem.run, h', Result.andThen, hs, if_true, decode_ascii rowsS q hs ha]
    simp [goInt, Sem.run, h']
  · show (w.heap.setIfInBounds k (.stringIter rowsS (q + 1)))[k]? = _
    simp [hk]
  · refine ⟨rfl, rfl, rfl, by simp, fun b hb hn => ?_⟩
    show (w.heap.setIfInBounds k _)[b]? = _
    rw [Array.getElem?_setIfInBounds_ne (fun e => hn e.symm)]
theorem It.stop {w : World} {k : Nat} (h : It w k 160) : ∀ ty, (Instr.next (.pointer (some ⟨k, 0, none⟩)) true ty).run Tryd.prog w = .ok (.tuple #[.bool false]) w := fun ty => by
  have h' : w.heap[k]? = some (.stringIter rowsS 160) := h
  have hs : ¬ 160 < rowsS.size := by rw [rows_size]; omega
  simp [Instr.next, getObj, Sem.run, h', hs]
theorem wpList_next {ops : Array Oper} {rest : List Oper} {op : Oper} {a : Act} {w w' : World} {Q : Exit → Act → World → Prop} {v : Value} (hgd : op.guard = none) (x : Operand) (ho : op.op = .next x true) (k : Nat) (hx : a.eval x = .pointer (some ⟨k, 0, none⟩))
    (hr : ∀ ty, (Instr.next (.pointer (some ⟨k, 0, none⟩)) true ty).run Tryd.prog w = .ok v w') (hk : wpList Tryd.prog ops Q rest (a.put op.dst v) w') : wpList Tryd.prog ops Q (op :: rest) a w :=
  wpList_plain hgd fun K hK => by
    unfold Oper.wp execOp
    simp only [ho, hx, Sem.run_bind, hr, Result.andThen_ok]
    exact hK _ _ hk

theorem iv_lit : (wvs iv).toArray = #[.int .u32 1779033703, .int .u32 3144134277, .int .u32 1013904242, .int .u32 2773480762, .int .u32 1359893119, .int .u32 2600822924, .int .u32 528734635, .int .u32 1541459225] := rfl
theorem begin_any (w : World) : Calls Tryd.prog 39 #[] w fun e w' => e = .returned (.agg (wvs iv).toArray) ∧ Below w.heap.size w w' := by
  go_enter Tryd.func39, Tryd.ntmps39
  go_wp2_with fail
  refine bodyPost_ret (results_w rfl _ _ w.heap.size (cs := wvs iv) rfl rfl (Cs.new rfl (wvs iv))) rfl ⟨rfl, by (repeat (with_reducible (first | exact Below.refl _ _ | assumption | refine bl_alloc ?_ _ | refine bl_drew ?_ | refine bl_drewN ?_ _ | (refine bl_set ?_ ?_ _; (focus (first | (simp; done) | (simp; omega) | omega))) | refine bl_then ?_ (by assumption))))⟩
theorem rbegin_any (w : World) : Calls Tryd.prog 28 #[] w fun e w' => e = .returned (.agg (wvs iv).toArray) ∧ Below w.heap.size w w' := by
  go_enter Tryd.func28, Tryd.ntmps28
  go_wp2_with fail
  refine bodyPost_ret (results_8 rfl _ _ w.heap.size (cs := wvs iv) rfl rfl (Cs.new rfl (wvs iv))) rfl ⟨rfl, by (repeat (with_reducible (first | exact Below.refl _ _ | assumption | refine bl_alloc ?_ _ | refine bl_drew ?_ | refine bl_drewN ?_ _ | (refine bl_set ?_ ?_ _; (focus (first | (simp; done) | (simp; omega) | omega))) | refine bl_then ?_ (by assumption))))⟩
theorem xor_many (x : W) (n : Nat) (z : Int) (hz : z = ((n % 4294967296 : Nat) : Int)) : bits .xor .u32 (x.toNat : Int) z = ((x ^^^ UInt32.ofNat n).toNat : Int) := by
  have e : z = ((UInt32.ofNat n).toNat : Int) := by rw [hz, UInt32.toNat_ofNat']
  rw [e, w_xor]
theorem not_val (x : W) : bits .xor .u32 4294967295 (x.toNat : Int) = ((~~~x).toNat : Int) := by
  have h := u32_xor_nat 4294967295 x.toNat (by decide) (w_lt x)
  have e : 4294967295 ^^^ x.toNat = (~~~x).toNat := by
    have := congrArg BitVec.toNat (BitVec.allOnes_xor (x := x.toBitVec))
    rw [BitVec.toNat_xor] at this
    exact this
  rw [← e]; exact h
end Go.Proofs.YtmfajippoielhaaDoor
