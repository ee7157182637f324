/- Rows of elements of any size: slices that read as lists; append onto a row of the call's own. -/
import Derived.Test.YtooghjnddifpdaaRow
import Derived.BigFrame
namespace Go.Proofs.Ytooghjnddifpdaa
open Go.RowKit

section
variable {α : Type} (f : α → List Value) (sz : Nat)
def gcs (l : List α) : List Value := l.flatMap f
variable {f} {sz}
theorem gcs_len (hf : ∀ a, (f a).length = sz) (l : List α) : (gcs f l).length = l.length * sz := by
  induction l with
  | nil => simp [gcs]
  | cons a L ih => show (f a ++ gcs f L).length = _; rw [List.length_append, hf, ih, List.length_cons, Nat.succ_mul]; omega
theorem gcs_append (a b : List α) : gcs f (a ++ b) = gcs f a ++ gcs f b := by simp [gcs]
theorem gcs_one (h1 : ∀ a, ∀ u ∈ f a, u.oneCell' = true) (l : List α) : ∀ u ∈ gcs f l, u.oneCell' = true := by
  intro u hu
  obtain ⟨a, _, ha⟩ := List.mem_flatMap.1 hu
  exact h1 a u ha
theorem gcs_at (hf : ∀ a, (f a).length = sz) : ∀ (l : List α) (i j : Nat) (a : α) (u : Value), l[i]? = some a → (f a)[j]? = some u → (gcs f l)[i * sz + j]? = some u
  | [], i, j, a, u, h, _ => by simp at h
  | b :: L, 0, j, a, u, h, hj => by
    simp at h; subst h
    show (f b ++ gcs f L)[0 * sz + j]? = _
    have hlt := (List.getElem?_eq_some_iff.1 hj).1
    rw [Nat.zero_mul, Nat.zero_add, List.getElem?_append_left hlt, hj]
  | b :: L, i + 1, j, a, u, h, hj => by
    have ih := gcs_at hf L i j a u (by simpa using h) hj
    show (f b ++ gcs f L)[(i + 1) * sz + j]? = _
    rw [List.getElem?_append_right (by rw [hf, Nat.succ_mul]; omega), hf, show (i + 1) * sz + j - sz = i * sz + j by rw [Nat.succ_mul]; omega]
    exact ih
variable (f) (sz)
/-- A slice that reads as a list. -/
def GRow (w : World) (v : Value) (l : List α) : Prop :=
  ∃ A cap, v = .slice A l.length cap ∧ (0 < l.length → ∃ b off, A = some ⟨b, off, none⟩ ∧ b < w.heap.size ∧ ∀ j u, (gcs f l)[j]? = some u → w.cell? ⟨b, off + j, none⟩ = some u)
variable {f} {sz}
theorem GRow.form {w : World} {v : Value} {l : List α} (h : GRow f w v l) : ∃ A cap, v = .slice A l.length cap := by obtain ⟨A, cap, e, _⟩ := h; exact ⟨A, cap, e⟩
theorem GRow.below {w w' : World} {v : Value} {l : List α} (h : GRow f w v l) (hb : Below w.heap.size w w') : GRow f w' v l := by
  obtain ⟨A, cap, e, h⟩ := h
  refine ⟨A, cap, e, fun h0 => ?_⟩
  obtain ⟨b, off, e', hlt, hc⟩ := h h0
  exact ⟨b, off, e', Nat.lt_of_lt_of_le hlt hb.size, fun j u hu => (hb.cell (by exact hlt)).trans (hc j u hu)⟩
theorem GRow.nil (w : World) : GRow f w (.slice none 0 0) [] := ⟨none, 0, rfl, fun h => by simp at h⟩
theorem GRow.at (hf : ∀ a, (f a).length = sz) {w : World} {v : Value} {l : List α} (h : GRow f w v l) {i : Nat} {a : α} (ha : l[i]? = some a) : ∃ b off cap, v = .slice (some ⟨b, off, none⟩) l.length cap ∧ b < w.heap.size ∧ ∀ j u, (f a)[j]? = some u → w.cell? ⟨b, off + i * sz + j, none⟩ = some u := by
  obtain ⟨A, cap, rfl, h⟩ := h
  have hi := (List.getElem?_eq_some_iff.1 ha).1
  obtain ⟨b, off, rfl, hb, hc⟩ := h (by omega)
  refine ⟨b, off, cap, rfl, hb, fun j u hu => ?_⟩
  rw [Nat.add_assoc]
  exact hc _ _ (gcs_at hf l i j a u ha hu)
theorem GRow.of_own (hf : ∀ a, (f a).length = sz) (hs : 0 < sz) {w : World} {B e n : Nat} {v : Value} {l : List α} (h : w.ownsRow B e sz v n (gcs f l)) : GRow f w v l := by
  have hl : n = l.length := by
    have := h.1
    rw [gcs_len hf] at this
    exact (Nat.eq_of_mul_eq_mul_right hs this).symm
  rcases h.2 with ⟨rfl, h0⟩ | ⟨g, cap, cur, rfl, _, hh, _, _, _, ht⟩
  · have : l.length = 0 := by omega
    exact ⟨none, 0, by rw [this], fun h => by omega⟩
  · refine ⟨_, cap, by rw [hl], fun _ => ⟨g, 0, rfl, kb_lt hh, fun j u hu => ?_⟩⟩
    rw [Nat.zero_add, kb_cell hh, ← Array.getElem?_toList]
    rw [← ht, List.getElem?_take] at hu
    split at hu
    · exact hu
    · cases hu
theorem GRow.lit {w : World} {b cap : Nat} {cs : Array Value} {t : TypeId} {fr : Nat × Nat} {l : List α} (h : w.heap[b]? = some (.cells cs t fr)) (hc : cs = (gcs f l).toArray) : GRow f w (.slice (some ⟨b, 0, none⟩) l.length cap) l :=
  ⟨_, _, rfl, fun _ => ⟨b, 0, rfl, kb_lt h, fun j u hu => by rw [Nat.zero_add, kb_cell h, hc]; simpa using hu⟩⟩
/-- Elements are appended onto a row of the call's own. -/
theorem run_append_g {P : Program} {ts t : TypeId} {i0 : TypeInfo} {z : Value} {bytes : Nat} (hts : P.underlying ts = some (.slice t)) (hi : P.info? t = some i0) (hz0 : i0.zero = some z) (hz1 : i0.size = sz) (hz2 : i0.bytes = bytes) (hzs : z.cells.size = sz) (hs : 0 < sz) (hb1 : bytes ≤ 100)
    (hf : ∀ a, (f a).length = sz) (h1 : ∀ a, ∀ u ∈ f a, u.oneCell' = true)
    (w : World) (base ty : Nat) (v : Value) (n : Nat) (xs : List Value) (hown : w.ownsRow base t sz v n xs) (u : Value) (l : List α) (hu : GRow f w u l)
    (h63 : n + l.length ≤ 1000000000) (hbase : base ≤ w.heap.size) :
    ∃ v' w', (Builtin.append_ #[ts, ts] ty #[v, u]).run P w = .ok v' w' ∧ w'.ownsRow base t sz v' (n + l.length) (xs ++ gcs f l) ∧ w.grownBy w' v.ownBlock ∧ (v'.ownBlock = v.ownBlock ∨ v'.ownBlock = some w.heap.size) := by
  have hmul : (n + l.length) * bytes ≤ 140737488355328 := by
    have := Nat.mul_le_mul h63 hb1; omega
  have h63' : n + l.length ≤ maxLen := by unfold maxLen; omega
  rcases Nat.eq_zero_or_pos l.length with h0 | h0
  · obtain rfl : l = [] := List.eq_nil_of_length_eq_zero h0
    obtain ⟨A, c, rfl, _⟩ := hu
    cases A with
    | none =>
      refine ⟨v, w, ?_, by simpa [gcs] using hown, ⟨rfl, rfl, rfl, Nat.le_refl _, fun _ _ _ => rfl⟩, .inl rfl⟩
      rcases hown.2 with ⟨rfl, rfl⟩ | ⟨g, cap, cur, rfl, _, _, hnc, _⟩
      · simp [Builtin.append_, run_underlying hts, sizeOf, typeInfo, hi, Builtin.lenOf, Builtin.firstCells]
      · simp [Builtin.append_, run_underlying hts, sizeOf, typeInfo, hi, Builtin.lenOf, Builtin.firstCells, hnc, storeCells]
    | some ad =>
      obtain ⟨v', w', hr, h2, h3, _, h5⟩ := run_append_own_at (P := P) w base ts ty t i0 z sz bytes hts hi hz0 hz1 hz2 hzs hs v n xs hown ad 0 c [] (by simp) (fun j u hu => by simp at hu) (by simp) (by simpa using h63') (by simpa using hmul) hbase
      exact ⟨v', w', hr, h2, h3, h5⟩
  · obtain ⟨A, cap, rfl, hc⟩ := hu
    obtain ⟨b, off, rfl, hb, hc⟩ := hc h0
    obtain ⟨v', w', hr, h2, h3, _, h5⟩ := run_append_own_at (P := P) w base ts ty t i0 z sz bytes hts hi hz0 hz1 hz2 hzs hs v n xs hown ⟨b, off, none⟩ l.length cap (gcs f l) (gcs_len hf l) (fun j u hu => by rw [addr_add]; exact hc j u hu) (gcs_one h1 l) h63' hmul hbase
    exact ⟨v', w', hr, h2, h3, h5⟩
theorem wpList_append_g {P : Program} {ts t : TypeId} {i0 : TypeInfo} {z : Value} {bytes : Nat} (hts : P.underlying ts = some (.slice t)) (hi : P.info? t = some i0) (hz0 : i0.zero = some z) (hz1 : i0.size = sz) (hz2 : i0.bytes = bytes) (hzs : z.cells.size = sz) (hs : 0 < sz) (hb1 : bytes ≤ 100)
    (hf : ∀ a, (f a).length = sz) (h1 : ∀ a, ∀ u ∈ f a, u.oneCell' = true)
    (w : World) {ops : Array Oper} {rest : List Oper} {o : Oper} {a : Act} {Q : Exit → Act → World → Prop} (hgd : o.guard = none) (s x : Operand)
    (ho : o.op = .call { callee := .builtin .append, args := #[s, x], argTypes := #[ts, ts] })
    (base : Nat) (v : Value) (n : Nat) (xs : List Value) (hsv : a.eval s = v) (hown : w.ownsRow base t sz v n xs)
    (u : Value) (l : List α) (hx : a.eval x = u) (hu : GRow f w u l) (h63 : n + l.length ≤ 1000000000) (hbase : base ≤ w.heap.size)
    (h : ∀ v' w', w'.ownsRow base t sz v' (n + l.length) (xs ++ gcs f l) → w.grownBy w' v.ownBlock → (v'.ownBlock = v.ownBlock ∨ v'.ownBlock = some w.heap.size) → wpList P ops Q rest (a.put o.dst v') w') :
    wpList P ops Q (o :: rest) a w :=
  wpList_plain hgd fun K hK => by
    obtain ⟨v', w', hr, h2, h3, h5⟩ := run_append_g hts hi hz0 hz1 hz2 hzs hs hb1 hf h1 w base o.type v n xs hown u l hu h63 hbase
    unfold Oper.wp execOp
    simp only [ho, resolve, invoke, builtin, Sem.run_bind, Sem.run_pure, Result.andThen_ok, List.map_toArray, List.map_cons, List.map_nil, hsv, hx, hr]
    exact hK _ _ (h v' w' h2 h3 h5)
theorem owns_lit0g {w : World} {base b : Nat} {e : TypeId} {cap : Nat} (h : w.heap[b]? = some (.cells #[] e (0, 0))) (hb : base ≤ b) (hc : cap = 0) : w.ownsRow base e sz (.slice (some ⟨b, 0, none⟩) 0 cap) 0 [] :=
  ⟨by simp, .inr ⟨b, cap, #[], rfl, hb, h, Nat.zero_le _, by subst hc; decide, by subst hc; simp, by simp⟩⟩
theorem gapp_rel {wb wr w1 : World} {u v' : Value} {o : Obj} {L : List α} {x : α} {n t : Nat} (hown : wr.ownsRow wb.heap.size t sz u n (gcs f L)) (hnx : Below wb.heap.size wb wr)
    (hown' : w1.ownsRow wb.heap.size t sz v' (n + 1) (gcs f L ++ gcs f [x])) (hgrow : (wr.alloc o).grownBy w1 u.ownBlock) :
    w1.ownsRow wb.heap.size t sz v' (n + 1) (gcs f (L ++ [x])) ∧ Below wb.heap.size wb w1 := by
  have hs := hnx.size
  exact ⟨by rw [gcs_append]; exact hown', (hnx.alloc hs o).grown hgrow (by simp; omega) (fun j hj => (hown.lt j hj).1)⟩
end
end Go.Proofs.Ytooghjnddifpdaa
