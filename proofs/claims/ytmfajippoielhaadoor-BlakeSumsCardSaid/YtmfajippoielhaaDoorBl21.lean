/- BlakePieces' walk. -/
import Derived.Test.YtmfajippoielhaaDoorBl16
import Derived.Test.YtmfajippoielhaaDoorKit
import Derived.Test.YtmfajippoielhaaDoorBBytes4
namespace Go.Proofs.YtmfajippoielhaaDoor
open Go.RowKit Go.Proofs.YtmfajippoielhaaDoor.Bl BigFrame
set_option linter.unusedSimpArgs false
set_option linter.unusedVariables false
attribute [local go_sem] cell_alloc_some frozen_alloc_some

/-- Ints that came in. -/
def IntRow (w : World) (A : Option Addr) (zs : List Int) : Prop := 0 < zs.length → ∃ b off, A = some ⟨b, off, none⟩ ∧ b < w.heap.size ∧ ∀ i z, zs[i]? = some z → w.cell? ⟨b, off + i, none⟩ = some (.int .i64 z)
theorem IntRow.below {w w' : World} {A : Option Addr} {zs : List Int} (h : IntRow w A zs) (k : Below w.heap.size w w') : IntRow w' A zs := fun h0 => by
  obtain ⟨b, off, e, hb, hc⟩ := h h0
  exact ⟨b, off, e, Nat.lt_of_lt_of_le hb k.size, fun i z hz => (k.cell (by exact hb)).trans (hc i z hz)⟩
/-- What a slice of bytes is cut to. -/
def cutA (A : Option Addr) (cap lo : Nat) : Option Addr := if cap = lo then A else A.map (·.add (lo * 1))
theorem cut_bytes {w : World} {A : Option Addr} {cap lo hi : Nat} {b : List UInt8} (hB : BytesOf w (.slice A b.length cap) b) (hc : b.length ≤ cap) (h1 : lo ≤ hi) (h2 : hi ≤ b.length) :
    BytesOf w (.slice (cutA A cap lo) (hi - lo) (cap - lo)) ((b.drop lo).take (hi - lo)) := by
  obtain ⟨A', c', e, _, hcell⟩ := hB
  injection e with e1 e2 e3
  subst e1; subst e3
  have hl : ((b.drop lo).take (hi - lo)).length = hi - lo := by rw [List.length_take, List.length_drop]; omega
  refine ⟨cutA A cap lo, cap - lo, by rw [hl], u8s_len _, fun h0 => ?_⟩
  rw [hl] at h0
  obtain ⟨g, off, rfl, hg, hh⟩ := hcell (by omega)
  refine ⟨g, off + lo, ?_, hg, fun j u hu => ?_⟩
  · unfold cutA
    rw [if_neg (by omega), Option.map_some, Nat.mul_one, addr_add]
  · rw [← u8s_take, ← u8s_drop, List.getElem?_take] at hu
    split at hu
    · rw [List.getElem?_drop] at hu
      rw [Nat.add_assoc]; exact hh _ _ hu
    · cases hu
theorem elem_b : Tryd.prog.underlying 22 = some (.slice (Tryd.prog.elem 22)) := by kernel_rfl
theorem run_cut {A : Option Addr} {n cap lo hi : Nat} (h1 : lo ≤ hi) (h2 : hi ≤ cap) (W : World) :
    (Instr.sliceAt 22 (.slice A n cap) (some (.int .i64 (lo : Int))) (some (.int .i64 (hi : Int))) none).run Tryd.prog W = .ok (.slice (cutA A cap lo) (hi - lo) (cap - lo)) W := by
  obtain ⟨i, hi', hz, hs, _⟩ := info_parts infoU
  have he : Tryd.prog.elem 22 = 5 := by kernel_rfl
  rw [run_sliceAt_slice W 22 _ _ _ _ elem_b, run_slice_lh W 22 A n cap elem_b .i64 .i64 lo hi (by omega) (by omega) (by omega)]
  simp only [he, sizeOf, typeInfo, Sem.run_bind]
  simp [hi', hs, sliced, cutA]
theorem run_cut0 {A : Option Addr} {n cap hi : Nat} (h2 : hi ≤ cap) (W : World) :
    (Instr.sliceAt 22 (.slice A n cap) none (some (.int .i64 (hi : Int))) none).run Tryd.prog W = .ok (.slice (cutA A cap 0) (hi - 0) (cap - 0)) W := by
  obtain ⟨i, hi', hz, hs, _⟩ := info_parts infoU
  have he : Tryd.prog.elem 22 = 5 := by kernel_rfl
  rw [run_sliceAt_slice W 22 _ _ _ _ elem_b, run_slice_h W 22 A n cap elem_b .i64 hi (by omega) (by omega)]
  simp only [he, sizeOf, typeInfo, Sem.run_bind]
  simp [hi', hs, sliced, cutA]
theorem wpList_cut {ops : Array Oper} {rest : List Oper} {op : Oper} {a : Act} {w : World} {Q : Exit → Act → World → Prop} (hgd : op.guard = none) (x l h : Operand) (ho : op.op = .slice 22 x (some l) (some h) none) {A : Option Addr} {n cap lo hi : Nat}
    (hx : a.eval x = .slice A n cap) (hl : a.eval l = .int .i64 (lo : Int)) (hh : a.eval h = .int .i64 (hi : Int)) (h1 : lo ≤ hi) (h2 : hi ≤ cap)
    (hk : wpList Tryd.prog ops Q rest (a.put op.dst (.slice (cutA A cap lo) (hi - lo) (cap - lo))) w) : wpList Tryd.prog ops Q (op :: rest) a w :=
  wpList_plain hgd fun K hK => by
    have hr := run_cut (A := A) (n := n) h1 h2 w
    unfold Oper.wp execOp
    simp only [ho, hx, hl, hh, Option.map_some, Option.map_none, Sem.run_bind, hr, Result.andThen_ok]
    exact hK _ _ hk
theorem yieldsIf_cut0 {ops : Array Oper} {S : World → Prop} {op : Oper} {a : Act} (hw : Region.wanted op (yielded ops a.tmps) = true) (x h : Operand) (ho : op.op = .slice 22 x none (some h) none) {A : Option Addr} {n cap hi : Nat}
    (hx : a.eval x = .slice A n cap) (hh : a.eval h = .int .i64 (hi : Int)) (h2 : hi ≤ cap) : YieldsIf Tryd.prog ops S op (.slice (cutA A cap 0) (hi - 0) (cap - 0)) a :=
  .inl ⟨hw, fun w _ => by
    unfold execOp
    simp only [ho, hx, hh, Option.map_some, Option.map_none, Sem.run_bind, run_cut0 (A := A) (n := n) h2 w, Result.andThen_ok, Sem.run_pure]⟩
end Go.Proofs.YtmfajippoielhaaDoor
