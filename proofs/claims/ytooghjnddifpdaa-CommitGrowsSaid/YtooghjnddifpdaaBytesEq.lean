/- Arrays of bytes are compared. -/
import Derived.Test.YtooghjnddifpdaaBytes
import Derived.ChangeKeysEq
import Derived.Laws.StructEq
namespace Go.Proofs.Ytooghjnddifpdaa
open Go.RowKit

theorem run_equalIn_u8 (W : World) (d : Nat) (a b : UInt8) : (Op.equalIn (d + 1) 5 (u8v a) (u8v b)).run Try.prog W = .ok (a == b) W := by
  have h : ((a.toNat : Int) == (b.toNat : Int)) = (a == b) := by
    rw [Bool.eq_iff_iff, beq_iff_eq, beq_iff_eq, ← UInt8.toNat_inj]
    omega
  unfold u8v
  simp only [Op.equalIn, Sem.run_bind, run_underlying Try.underlying5 W, Result.andThen_ok, if_true, Sem.run_pure, h]
theorem run_eqItems_u8 (W : World) (d : Nat) (a b : List UInt8) (n : Nat) (ha : a.length = n) (hb : b.length = n) : ∀ is : List Nat, (∀ i ∈ is, i < n) →
    (Op.eqItems (d + 1) 5 1 (u8s a).toArray (u8s b).toArray is).run Try.prog W = .ok (is.all fun i => a[i]? == b[i]?) W := by
  intro is
  induction is with
  | nil => intro _; simp [Op.eqItems]
  | cons i r ih =>
    intro h
    have hi : i < n := h i (by simp)
    have p1 : (part 5 (u8s a).toArray (i * 1)).run Try.prog W = .ok (u8v (a[i]'(by omega))) W := run_part_plain W (by kernel_rfl) (by rw [Nat.mul_one]; simpa using u8s_get a i (by omega))
    have p2 : (part 5 (u8s b).toArray (i * 1)).run Try.prog W = .ok (u8v (b[i]'(by omega))) W := run_part_plain W (by kernel_rfl) (by rw [Nat.mul_one]; simpa using u8s_get b i (by omega))
    have ih := ih fun j hj => h j (by simp [hj])
    simp only [Op.eqItems, Sem.run_bind, p1, p2, Result.andThen_ok, run_equalIn_u8]
    have e1 : a[i]? = some (a[i]'(by omega)) := List.getElem?_eq_getElem (by omega)
    have e2 : b[i]? = some (b[i]'(by omega)) := List.getElem?_eq_getElem (by omega)
    rw [List.all_cons, e1, e2]
    cases hc : (a[i]'(by omega) == b[i]'(by omega))
    · have : ((some (a[i]'(by omega)) : Option UInt8) == some (b[i]'(by omega))) = false := by simpa using hc
      simp [this]
    · have : ((some (a[i]'(by omega)) : Option UInt8) == some (b[i]'(by omega))) = true := by simpa using hc
      simp [this, ih]
theorem all_eq (a b : List UInt8) (n : Nat) (ha : a.length = n) (hb : b.length = n) : ((List.range n).all fun i => a[i]? == b[i]?) = (a == b) := by
  rw [Bool.eq_iff_iff, List.all_eq_true, beq_iff_eq]
  constructor
  · intro h
    apply List.ext_getElem?
    intro i
    by_cases hi : i < n
    · simpa using h i (by simpa using hi)
    · rw [List.getElem?_eq_none (by omega), List.getElem?_eq_none (by omega)]
  · rintro rfl i _
    simp
theorem run_eql_bytes {t : TypeId} {n : Nat} (hu : Try.prog.underlying t = some (.array n 5)) (a b : List UInt8) (ha : a.length = n) (hb : b.length = n) (W : World) :
    (binOp .eql t (.agg (u8s a).toArray) (.agg (u8s b).toArray)).run Try.prog W = .ok (.bool (a == b)) W := by
  obtain ⟨i0, hi, _, _, _⟩ := info_parts infoU
  have hc : Try.prog.cellsOf 5 = 1 := by kernel_rfl
  rw [run_eql_struct, show (10000 : Nat) = 9998 + 1 + 1 from rfl, run_equalIn_array W (9998 + 1) _ _ hu hi, hc, run_eqItems_u8 W 9998 a b n ha hb _ (fun i h => by simpa using h), all_eq a b n ha hb]
  rfl
theorem run_neq_bytes {t : TypeId} {n : Nat} (hu : Try.prog.underlying t = some (.array n 5)) (a b : List UInt8) (ha : a.length = n) (hb : b.length = n) (W : World) :
    (binOp .neq t (.agg (u8s a).toArray) (.agg (u8s b).toArray)).run Try.prog W = .ok (.bool (!(a == b))) W := by
  obtain ⟨i0, hi, _, _, _⟩ := info_parts infoU
  have hc : Try.prog.cellsOf 5 = 1 := by kernel_rfl
  rw [run_neq_struct, show (10000 : Nat) = 9998 + 1 + 1 from rfl, run_equalIn_array W (9998 + 1) _ _ hu hi, hc, run_eqItems_u8 W 9998 a b n ha hb _ (fun i h => by simpa using h), all_eq a b n ha hb]
  rfl
end Go.Proofs.Ytooghjnddifpdaa
