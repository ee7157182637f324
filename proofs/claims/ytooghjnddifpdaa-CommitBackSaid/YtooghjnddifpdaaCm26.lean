/- What bytes decode to, as plain data; laws on commits and faults in memory. -/
import Derived.Test.YtooghjnddifpdaaCm15
import Derived.Test.YtooghjnddifpdaaCWb
namespace Go.Proofs.Ytooghjnddifpdaa
open Go.RowKit Go.Proofs.Ytooghjnddifpdaa.Cm Go.Proofs.Ytooghjnddifpdaa.Wi BigFrame
set_option linter.unusedSimpArgs false
set_option linter.unusedVariables false
attribute [local go_sem] cell_alloc_some frozen_alloc_some

abbrev sNum (xs : List UInt8) (st : St) : Nat × St := step (numP xs) 0 st
abbrev sHash (xs : List UInt8) (st : St) : List UInt8 × St := step (fun a => takeP xs 32 a a id) (List.replicate 32 0) st
abbrev sWord (xs : List UInt8) (st : St) : Nat × St := step (fun a => takeP xs 8 a a bigL) 0 st
/-- So many votes are read. -/
def readV (xs : List UInt8) : Nat → St → List Vt × St
  | 0, st => ([], st)
  | k + 1, st => (⟨(sNum xs st).1, (sWord xs (sNum xs st).2).1⟩ :: (readV xs k (sWord xs (sNum xs st).2).2).1, (readV xs k (sWord xs (sNum xs st).2).2).2)
def dec1 (xs : List UInt8) : Nat × St := sNum xs (.at 0)
def dec2 (xs : List UInt8) : List UInt8 × St := sHash xs (dec1 xs).2
def decAt (xs : List UInt8) : Nat := xs.length - restS xs (dec2 xs).2
def dec3 (xs : List UInt8) : Nat × St := sNum xs (dec2 xs).2
def dec4 (xs : List UInt8) : List Vt × St := readV xs (dec3 xs).1 (dec3 xs).2
def decC (xs : List UInt8) : C := ⟨(dec1 xs).1, (dec2 xs).1, (dec4 xs).1⟩
def decF (xs : List UInt8) : Nat × Nat := if 64 < (dec3 xs).1 then (4, decAt xs) else if endS xs (dec4 xs).2 = (0, 0) then (chk (decC xs), 0) else endS xs (dec4 xs).2
def decR (xs : List UInt8) : C := if decF xs = (0, 0) then decC xs else cZ
theorem dec2_len (xs : List UInt8) : (dec2 xs).1.length = 32 := step_len (by simp) _
theorem restS_le (xs : List UInt8) (st : St) : restS xs st ≤ xs.length := by cases st <;> simp [restS]
/-- So many votes of them are read. -/
def ReadAt (xs : List UInt8) (n : Nat) (s0 : St) (k : Nat) (L : List Vt) (st : St) : Prop := readV xs n s0 = (L ++ (readV xs (n - k) st).1, (readV xs (n - k) st).2) ∧ L.length = k
theorem ReadAt.zero (xs : List UInt8) (n : Nat) (s0 : St) : ReadAt xs n s0 0 [] s0 := ⟨by simp, rfl⟩
theorem ReadAt.next {xs : List UInt8} {n : Nat} {s0 : St} {k : Nat} {L : List Vt} {st : St} (h : ReadAt xs n s0 k L st) (hk : k < n) : ReadAt xs n s0 (k + 1) (L ++ [⟨(sNum xs st).1, (sWord xs (sNum xs st).2).1⟩]) (sWord xs (sNum xs st).2).2 := by
  refine ⟨?_, by simp [h.2]⟩
  rw [h.1, show n - k = (n - (k + 1)) + 1 by omega]
  conv => lhs; unfold readV
  simp
theorem ReadAt.end {xs : List UInt8} {n : Nat} {s0 : St} {L : List Vt} {st : St} (h : ReadAt xs n s0 n L st) : readV xs n s0 = (L, st) := by
  rw [h.1, Nat.sub_self]; simp [readV]
/-- The commit told and the fault. -/
def DecOut (xs : List UInt8) (w : World) (e : Ending) (w' : World) : Prop := ∃ v', e = .returned (.tuple #[.agg (ccs (decR xs) v').toArray, .agg #[.int .i64 ((decF xs).1 : Int), .int .i64 ((decF xs).2 : Int)]]) ∧ NewVotes w w' v' (decR xs).vs
theorem sNum_lt (xs : List UInt8) (st : St) : (sNum xs st).1 ≤ 9223372036854775807 := by
  cases st with
  | bad e f => simp [step]
  | «at» a =>
    show (step (numP xs) 0 (.at a)).1 ≤ _
    cases h : numP xs a with
    | bad e f => simp [step, h]
    | ok v a' =>
      simp [step, h]
      have := numP_le h
      exact this

set_option maxRecDepth 100000 in
theorem flt_run (a b c d : Int) (W : World) : (Op.equalIn (9998 + 1 + 1) 61 (.agg #[.int .i64 a, .int .i64 b]) (.agg #[.int .i64 c, .int .i64 d])).run Try.prog W = .ok (decide (a = c ∧ b = d)) W := by
  rw [run_equalIn_agg W 9999 _ _ _ (by kernel_rfl) (by kernel_rfl)]
  have hf : Try.prog.fieldsOf 61 = (match Try.prog.underlying 61 with | some (.struct fs) => fs | _ => #[]) := rfl
  rw [hf, Try.underlying61]
  have ui := Try.underlying3
  have ue := Try.underlying33
  have e : decide (a = c ∧ b = d) = (a == c && b == d) := by
    rw [Bool.eq_iff_iff]
    simp
  rw [e]
  cases h : (a == c) <;> simp [Op.eqFields, go_sem, ui, ue, h]
  by_cases k : b = d
  · rw [if_pos k, beq_iff_eq.2 k]
  · rw [if_neg k, beq_eq_false_iff_ne.2 k]
theorem eql_flt (a b c d : Int) (W : World) : (binOp .eql 61 (.agg #[.int .i64 a, .int .i64 b]) (.agg #[.int .i64 c, .int .i64 d])).run Try.prog W = .ok (.bool (decide (a = c ∧ b = d))) W := by
  rw [run_eql_struct, show (10000 : Nat) = 9998 + 1 + 1 from rfl, flt_run]; rfl
theorem neq_flt (a b c d : Int) (W : World) : (binOp .neq 61 (.agg #[.int .i64 a, .int .i64 b]) (.agg #[.int .i64 c, .int .i64 d])).run Try.prog W = .ok (.bool (!decide (a = c ∧ b = d))) W := by
  rw [run_neq_struct, show (10000 : Nat) = 9998 + 1 + 1 from rfl, flt_run]; rfl
theorem RdO.lo {w : World} {B p s xs st} (h : RdO w B p s xs st) : B ≤ p := by
  cases st with
  | «at» a => exact Rd.lp h
  | bad e f => exact h.2.choose_spec.lp

theorem ccs_set0 (c : C) (v : Value) (h : Int) : (ccs c v).toArray.setIfInBounds 0 (.int .i64 h) = (ccs ⟨h, c.x, c.vs⟩ v).toArray := by
  simp [ccs]
theorem ccs_setH {c : C} (hx : c.x.length = 32) (v : Value) (q : List UInt8) (hq : q.length = 32) : updC (ccs c v).toArray 1 (u8s q) = (ccs ⟨c.h, q, c.vs⟩ v).toArray := by
  apply Array.ext_getElem?
  intro j
  rw [updC_get _ _ _ (by simp [ccs, u8s_len, hx, hq])]
  simp only [u8s_len, hq, List.getElem?_toArray]
  by_cases h : 1 ≤ j ∧ j < 1 + 32
  · rw [if_pos h]
    obtain ⟨i, rfl⟩ : ∃ i, j = i + 1 := ⟨j - 1, by omega⟩
    show _ = (u8s q ++ [v])[i]?
    rw [List.getElem?_append_left (by rw [u8s_len, hq]; omega)]
    rfl
  · rw [if_neg h]
    cases j with
    | zero => rfl
    | succ i =>
      show (u8s c.x ++ [v])[i]? = (u8s q ++ [v])[i]?
      rw [List.getElem?_append_right (by rw [u8s_len, hx]; omega), List.getElem?_append_right (by rw [u8s_len, hq]; omega), u8s_len, u8s_len, hx, hq]
/-- A commit's hash is stored. -/
theorem wpList_store_h {ops : Array Oper} {rest : List Oper} {op : Oper} {a : Act} {w : World} {Q : Exit → Act → World → Prop} (hgd : op.guard = none) (x y : Operand) (ho : op.op = .store 23 x y) (b : Nat) (hx : a.eval x = .pointer (some ⟨b, 1, none⟩)) {q : List UInt8} (hy : a.eval y = .agg (u8s q).toArray)
    {c : C} {v : Value} (h : w.heap[b]? = some (.cells (ccs c v).toArray 26 (0, 0))) (hl : c.x.length = 32) (hq : q.length = 32)
    (hk : ∀ w', w'.heap[b]? = some (.cells (ccs ⟨c.h, q, c.vs⟩ v).toArray 26 (0, 0)) → Keep (fun x => x = b) w w' → wpList Try.prog ops Q rest (a.put op.dst undef) w') : wpList Try.prog ops Q (op :: rest) a w := by
  have hL : (u8s q).toArray.size = 32 := by simpa using (u8s_len q).trans hq
  have ht : w.there b 1 32 := fun j hj => ⟨by rw [kb_cell h, Array.getElem?_eq_getElem (by simp [ccs, u8s_len, hl]; omega)]; rfl, kb_frozen h _⟩
  refine wpList_store_mid hgd 23 x y ho b 1 (u8s q).toArray hx hy (by rw [hL]; exact ht) (sizeH.trans (by rw [hL])) (u8s_all q) (hk _ ?_ (keep_cells _ 1 (Keep.refl _ _) (fun _ => rfl)))
  have := setCells_at (u8s q) w _ 1 h
  rw [ccs_setH hl v q hq] at this
  simpa using this
/-- Two results: a commit and a fault. -/
theorem results_cf {fn : Func} {p q : Tmp} (h : fn.results = #[.cell p 26, .cell q 61]) (tmps : Array Value) (w : World) (g g' : Nat) {c : C} {v : Value} {a b : Int} (hl : c.x.length = 32) {fr : Nat × Nat}
    (hp : tmps.getD p undef = .pointer (some ⟨g, 0, none⟩)) (hg : w.heap[g]? = some (.cells (ccs c v).toArray 26 fr)) (hp' : tmps.getD q undef = .pointer (some ⟨g', 0, none⟩)) (hg' : w.heap[g']? = some (.cells #[.int .i64 a, .int .i64 b] 61 fr)) :
    (results fn tmps).run Try.prog w = .ok (.tuple #[.agg (ccs c v).toArray, .agg #[.int .i64 a, .int .i64 b]]) w := by
  have hp1 : tmps[p]?.getD undef = .pointer (some ⟨g, 0, none⟩) := by simpa using hp
  have hp2 : tmps[q]?.getD undef = .pointer (some ⟨g', 0, none⟩) := by simpa using hp'
  have hi : (Try.prog.info? 26).map (·.size) = some (ccs c v).toArray.size := sizeC.trans (by simpa using (ccs_len hl v).symm)
  have hi2 : (Try.prog.info? 61).map (·.size) = some (#[Value.int .i64 a, Value.int .i64 b] : Array Value).size := by kernel_rfl
  simp [results, h, hp1, hp2, asAddr, run_loadVar_row w g _ 26 _ fr _ hg Try.underlying26 rfl hi, run_loadVar_row w g' _ 61 _ fr _ hg' Try.underlying61 rfl hi2]
end Go.Proofs.Ytooghjnddifpdaa
