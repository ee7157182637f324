/- The machine's float operations, at 64 bits: the answer up to which NaN it is. -/
import Derived.Test.YtooghjnddifpdaaBase
import Derived.Test.YtooghjnddifpdaaPaceP
import Derived.Laws.Externs
import Derived.Laws.FloatArith
namespace Go.Proofs.Ytooghjnddifpdaa
open Go.RowKit Go.Proofs.Ytooghjnddifpdaa.Pc

theorem run_nan_pick {P : Program} (x y : Nat) (w : World) : ∃ r w1, (do pure (Value.float .f64 (← choose (.nanBits .f64 x y))) : Sem Value).run P w = .ok (.float .f64 r) w1 ∧ nanB r = true ∧ r < 18446744073709551616 ∧ Below w.heap.size w w1 := by
  refine ⟨(w.tape w.drawn (.nanBits .f64 x y) % 2) * 2 ^ 63 + 0x7ff0000000000000 + 1 + (w.tape w.drawn (.nanBits .f64 x y) / 2) % (2 ^ 52 - 1), w.drew, ?_, nan_pick _, ?_, (Below.refl _ w).drew⟩
  · rfl
  · have h1 : w.tape w.drawn (.nanBits .f64 x y) % 2 < 2 := Nat.mod_lt _ (by omega)
    have h2 : (w.tape w.drawn (.nanBits .f64 x y) / 2) % (2 ^ 52 - 1) < 2 ^ 52 - 1 := Nat.mod_lt _ (by decide)
    generalize (w.tape w.drawn (.nanBits .f64 x y) / 2) % (2 ^ 52 - 1) = r at *
    generalize w.tape w.drawn (.nanBits .f64 x y) % 2 = s at *
    omega
theorem run_farith {P : Program} (op : BinOp) (T : TypeId) (x y : Nat) (o : Option Nat) (w : World) (hb : floatBits op .f64 x y = o)
    (hn : o = none → binOp op T (.float .f64 x) (.float .f64 y) = (do pure (Value.float .f64 (← choose (.nanBits .f64 x y))))) :
    ∃ r w1, (binOp op T (.float .f64 x) (.float .f64 y)).run P w = .ok (.float .f64 r) w1 ∧ canon r = canon (o.getD theNaN) ∧ r < 18446744073709551616 ∧ Below w.heap.size w w1 := by
  cases o with
  | some r =>
    have hw := floatBits_wf hb
    exact ⟨r, w, run_float_arith w op T .f64 x y r hb, rfl, by simpa [Lit.wf] using hw, Below.refl _ _⟩
  | none =>
    rw [hn rfl]
    obtain ⟨r, w1, h1, h2, h3, h4⟩ := run_nan_pick (P := P) x y w
    exact ⟨r, w1, h1, by rw [canon_nan h2]; exact (canon_nan nan_the).symm, h3, h4⟩
theorem run_fsub {P : Program} (T : TypeId) (x y : Nat) (w : World) : ∃ r w1, (binOp .sub T (.float .f64 x) (.float .f64 y)).run P w = .ok (.float .f64 r) w1 ∧ canon r = canon (fsub x y) ∧ r < 18446744073709551616 ∧ Below w.heap.size w w1 :=
  run_farith .sub T x y (Ieee.double.sub x y) w rfl fun h => by
    have h' : FloatKind.f64.format.sub x y = none := h
    simp [binOp, Op.floatArith, h']
theorem run_fadd {P : Program} (T : TypeId) (x y : Nat) (w : World) : ∃ r w1, (binOp .add T (.float .f64 x) (.float .f64 y)).run P w = .ok (.float .f64 r) w1 ∧ canon r = canon (fadd x y) ∧ r < 18446744073709551616 ∧ Below w.heap.size w w1 :=
  run_farith .add T x y (Ieee.double.add x y) w rfl fun h => by
    have h' : FloatKind.f64.format.add x y = none := h
    simp [binOp, Op.floatArith, h']
theorem run_fdiv {P : Program} (T : TypeId) (x y : Nat) (w : World) : ∃ r w1, (binOp .quo T (.float .f64 x) (.float .f64 y)).run P w = .ok (.float .f64 r) w1 ∧ canon r = canon (fdiv x y) ∧ r < 18446744073709551616 ∧ Below w.heap.size w w1 :=
  run_farith .quo T x y (Ieee.double.div x y) w rfl fun h => by
    have h' : FloatKind.f64.format.div x y = none := h
    simp [binOp, Op.floatArith, h']
end Go.Proofs.Ytooghjnddifpdaa
