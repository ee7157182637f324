/- A slice that reads as a list of cells; append onto a row of the call's own from such a slice, nil and empty ones too. -/
import Derived.Test.YtooghjnddifpdaaKeep
import Derived.Maps.AppendAt
import Derived.Laws.AppendOwnNone
import Derived.OwnWalk
namespace Go.Proofs.Ytooghjnddifpdaa
open Go.RowKit

/-- A slice value that reads as a list of cells. -/
def RowOf (w : World) (v : Value) (n : Nat) (xs : List Value) : Prop :=
  ∃ A cap, v = .slice A n cap ∧ xs.length = n ∧ (0 < n → ∃ b off, A = some ⟨b, off, none⟩ ∧ b < w.heap.size ∧ ∀ j u, xs[j]? = some u → w.cell? ⟨b, off + j, none⟩ = some u)
theorem RowOf.below {w w' : World} {v : Value} {n : Nat} {xs : List Value} (h : RowOf w v n xs) (hb : Below w.heap.size w w') : RowOf w' v n xs := by
  obtain ⟨A, cap, e, hl, h⟩ := h
  refine ⟨A, cap, e, hl, fun hn => ?_⟩
  obtain ⟨b, off, e, hlt, hc⟩ := h hn
  exact ⟨b, off, e, Nat.lt_of_lt_of_le hlt hb.size, fun j u hu => (hb.cell (by exact hlt)).trans (hc j u hu)⟩
theorem RowOf.of_own {w : World} {B e n : Nat} {v : Value} {xs : List Value} (h : w.ownsRow B e 1 v n xs) : RowOf w v n xs := by
  have hl : xs.length = n := by have := h.1; omega
  rcases h.2 with ⟨rfl, rfl⟩ | ⟨g, cap, cur, rfl, _, hh, _, _, _, ht⟩
  · exact ⟨_, _, rfl, hl, fun h => by omega⟩
  · refine ⟨_, _, rfl, hl, fun _ => ⟨g, 0, rfl, kb_lt hh, fun j u hu => ?_⟩⟩
    rw [Nat.zero_add, kb_cell hh, ← Array.getElem?_toList]
    rw [← ht, List.getElem?_take] at hu
    split at hu
    · exact hu
    · cases hu
theorem RowOf.lit {w : World} {b n cap : Nat} {cs : Array Value} {t : TypeId} {fr : Nat × Nat} (h : w.heap[b]? = some (.cells cs t fr)) (hn : cs.size = n) : RowOf w (.slice (some ⟨b, 0, none⟩) n cap) n cs.toList :=
  ⟨_, _, rfl, by simpa using hn, fun _ => ⟨b, 0, rfl, kb_lt h, fun j u hu => by rw [Nat.zero_add, kb_cell h, ← Array.getElem?_toList]; exact hu⟩⟩

theorem RowOf.keep {w w' : World} {v : Value} {n : Nat} {xs : List Value} {S : Nat → Prop} (h : RowOf w v n xs) (hk : Keep S w w') (hn : ∀ b, v.ownBlock = some b → ¬ S b) : RowOf w' v n xs := by
  obtain ⟨A, cap, e, hl, h⟩ := h
  refine ⟨A, cap, e, hl, fun h0 => ?_⟩
  obtain ⟨b, off, e', hlt, hc⟩ := h h0
  refine ⟨b, off, e', Nat.lt_of_lt_of_le hlt hk.size, fun j u hu => ?_⟩
  have hb : w'.heap[b]? = w.heap[b]? := hk.block b hlt (hn b (by rw [e, e']; rfl))
  have := hc j u hu
  rw [← this]
  exact World.cell?_of_block hb
theorem RowOf.alloc {w : World} {v : Value} {n : Nat} {xs : List Value} (h : RowOf w v n xs) (o : Obj) : RowOf (w.alloc o) v n xs := h.below (bl_alloc (Below.refl _ _) o)
theorem RowOf.nil (w : World) (c : Nat) : RowOf w (.slice none 0 c) 0 [] := ⟨none, c, rfl, rfl, fun h => by omega⟩
theorem RowOf.drewN {w : World} {v : Value} {n : Nat} {xs : List Value} (h : RowOf w v n xs) (q : Nat) : RowOf (w.drewN q) v n xs := h.below (bl_drewN (Below.refl _ _) q)
theorem RowOf.drew {w : World} {v : Value} {n : Nat} {xs : List Value} (h : RowOf w v n xs) : RowOf w.drew v n xs := h.below (bl_drew (Below.refl _ _))
theorem owns_drewN {w : World} {base e size n : Nat} {v : Value} {xs : List Value} (h : w.ownsRow base e size v n xs) (q : Nat) : (w.drewN q).ownsRow base e size v n xs := h
theorem RowOf.form {w : World} {v : Value} {n : Nat} {xs : List Value} (h : RowOf w v n xs) : ∃ A cap, v = .slice A n cap := by obtain ⟨A, cap, e, _⟩ := h; exact ⟨A, cap, e⟩

theorem addr_add (b o j : Nat) : (⟨b, o, none⟩ : Addr).add j = ⟨b, o + j, none⟩ := by unfold Addr.add; split <;> simp_all
/-- append onto a row of the call's own, whatever the source. -/
theorem run_append_row {P : Program} (w : World) (base t ty e : Nat) (i : TypeInfo) (z : Value) (bytes : Nat) (ht : P.underlying t = some (.slice e)) (hi : P.info? e = some i) (hz : i.zero = some z)
    (hsize : i.size = 1) (hby : i.bytes = bytes) (hzs : z.cells.size = 1)
    (v : Value) (n : Nat) (xs : List Value) (hown : w.ownsRow base e 1 v n xs) (u : Value) (m : Nat) (news : List Value) (hu : RowOf w u m news) (h1 : ∀ u ∈ news, u.oneCell' = true)
    (h63 : n + m ≤ maxLen) (hbytes : (n + m) * bytes ≤ 140737488355328) (hbase : base ≤ w.heap.size) :
    ∃ v' w', (Builtin.append_ #[t, t] ty #[v, u]).run P w = .ok v' w' ∧ w'.ownsRow base e 1 v' (n + m) (xs ++ news) ∧ w.grownBy w' v.ownBlock ∧
      (v' = .slice none 0 0 ↔ v = .slice none 0 0 ∧ m = 0) ∧ (v'.ownBlock = v.ownBlock ∨ v'.ownBlock = some w.heap.size) := by
  obtain ⟨A, c, rfl, hl, hc⟩ := hu
  rcases Nat.eq_zero_or_pos m with h0 | h0
  · subst h0
    have hn : news = [] := List.eq_nil_of_length_eq_zero hl
    subst hn
    cases A with
    | none =>
      refine ⟨v, w, ?_, by simpa using hown, ⟨rfl, rfl, rfl, Nat.le_refl _, fun _ _ _ => rfl⟩, by simp, .inl rfl⟩
      rcases hown.2 with ⟨rfl, rfl⟩ | ⟨g, cap, cur, rfl, _, _, hnc, _⟩
      · simp [Builtin.append_, run_underlying ht, sizeOf, typeInfo, hi, Builtin.lenOf, Builtin.firstCells]
      · simp [Builtin.append_, run_underlying ht, sizeOf, typeInfo, hi, Builtin.lenOf, Builtin.firstCells, hnc, storeCells]
    | some ad =>
      exact run_append_own_at (P := P) w base t ty e i z 1 bytes ht hi hz hsize hby hzs (by omega) v n xs hown ad 0 c [] (by simp) (fun j u hu => by simp at hu) h1 h63 hbytes hbase
  · obtain ⟨b, off, rfl, hlt, hcell⟩ := hc h0
    refine run_append_own_at (P := P) w base t ty e i z 1 bytes ht hi hz hsize hby hzs (by omega) v n xs hown ⟨b, off, none⟩ m c news (by omega) (fun j u hu => ?_) h1 h63 hbytes hbase
    have hadd : (⟨b, off, none⟩ : Addr).add j = ⟨b, off + j, none⟩ := by unfold Addr.add; split <;> simp_all
    rw [hadd]
    exact hcell j u hu

theorem wpList_append_row {P : Program} (w : World) {ops : Array Oper} {rest : List Oper} {o : Oper} {a : Act} {Q : Exit → Act → World → Prop} (hgd : o.guard = none) (s x : Operand) (t : TypeId)
    (ho : o.op = .call { callee := .builtin .append, args := #[s, x], argTypes := #[t, t] })
    (base : Nat) (e : TypeId) (i : TypeInfo) (z : Value) (bytes : Nat) (ht : P.underlying t = some (.slice e)) (hi : P.info? e = some i) (hz : i.zero = some z)
    (hsize : i.size = 1) (hby : i.bytes = bytes) (hzs : z.cells.size = 1)
    (v : Value) (n : Nat) (xs : List Value) (hs : a.eval s = v) (hown : w.ownsRow base e 1 v n xs)
    (u : Value) (m : Nat) (news : List Value) (hx : a.eval x = u) (hu : RowOf w u m news) (h1 : ∀ u ∈ news, u.oneCell' = true)
    (h63 : n + m ≤ maxLen) (hbytes : (n + m) * bytes ≤ 140737488355328) (hbase : base ≤ w.heap.size)
    (h : ∀ v' w', w'.ownsRow base e 1 v' (n + m) (xs ++ news) → w.grownBy w' v.ownBlock → (v' = .slice none 0 0 ↔ v = .slice none 0 0 ∧ m = 0) → (v'.ownBlock = v.ownBlock ∨ v'.ownBlock = some w.heap.size) → wpList P ops Q rest (a.put o.dst v') w') :
    wpList P ops Q (o :: rest) a w := by
  refine wpList_plain hgd fun K hK => ?_
  obtain ⟨v', w', hr, h2, h3, h4, h5⟩ := run_append_row (P := P) w base t o.type e i z bytes ht hi hz hsize hby hzs v n xs hown u m news hu h1 h63 hbytes hbase
  unfold Oper.wp execOp
  simp only [ho, resolve, invoke, builtin, Sem.run_bind, Sem.run_pure, Result.andThen_ok, List.map_toArray, List.map_cons, List.map_nil, hs, hx, hr]
  exact hK _ _ (h v' w' h2 h3 h4 h5)

theorem owns_slice0 {w : World} {B e size n : Nat} {v : Value} {xs : List Value} (h : w.ownsRow B e size v n xs) : ∃ A cap, v = .slice A n cap := by
  rcases h.2 with ⟨rfl, rfl⟩ | ⟨g, cap, cur, rfl, _⟩
  · exact ⟨_, _, rfl⟩
  · exact ⟨_, _, rfl⟩
/-- An empty slice of a literal of no elements is a row of the call's own. -/
theorem owns_lit0 {w : World} {base b : Nat} {e : TypeId} {cap : Nat} (h : w.heap[b]? = some (.cells #[] e (0, 0))) (hb : base ≤ b) (hc : cap = 0) : w.ownsRow base e 1 (.slice (some ⟨b, 0, none⟩) 0 cap) 0 [] :=
  ⟨rfl, .inr ⟨b, cap, #[], rfl, hb, h, Nat.zero_le _, by subst hc; decide, by subst hc; rfl, rfl⟩⟩
/-- A literal is a row of the call's own. -/
theorem owns_lit {w : World} {base b n : Nat} {e : TypeId} {cs : Array Value} (h : w.heap[b]? = some (.cells cs e (0, 0))) (hb : base ≤ b) (hn : cs.size = n) (hm : n ≤ maxLen) : w.ownsRow base e 1 (.slice (some ⟨b, 0, none⟩) n n) n cs.toList :=
  ⟨by simpa using hn, .inr ⟨b, n, cs, rfl, hb, h, Nat.le_refl _, hm, by omega, by rw [List.take_of_length_le (by simp; omega)]⟩⟩
end Go.Proofs.Ytooghjnddifpdaa
