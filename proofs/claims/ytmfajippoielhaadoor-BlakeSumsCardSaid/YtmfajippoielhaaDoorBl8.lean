/- A state's bytes: rows at any place of a block; append; the state whole. -/
import Derived.Test.YtmfajippoielhaaDoorBl7
import Derived.Test.YtmfajippoielhaaDoorBl6
import Derived.Lib.AppendZerosOnto
namespace Go.Proofs.YtmfajippoielhaaDoor
open Go.RowKit Go.Proofs.YtmfajippoielhaaDoor.Bl
set_option linter.unusedSimpArgs false
set_option linter.unusedVariables false

/-- A row of bytes that may be written, at any place of its block. -/
def Ob (w : World) (v : Value) (l : List UInt8) : Prop :=
  (v = .slice none 0 0 ∧ l = []) ∨ ∃ g off cap cs, v = .slice (some ⟨g, off, none⟩) l.length cap ∧ Cs w g 5 cs ∧ off + cap ≤ cs.length ∧ l.length ≤ cap ∧ ∀ i u, (u8s l)[i]? = some u → cs[off + i]? = some u
theorem Ob.form {w : World} {v : Value} {l : List UInt8} (h : Ob w v l) : ∃ A cap, v = .slice A l.length cap ∧ l.length ≤ cap ∧ (0 < cap → ∃ g off, A = some ⟨g, off, none⟩) := by
  rcases h with ⟨rfl, rfl⟩ | ⟨g, off, cap, cs, rfl, _, _, h, _⟩
  · exact ⟨none, 0, rfl, Nat.le_refl _, fun h => by omega⟩
  · exact ⟨_, cap, rfl, h, fun _ => ⟨g, off, rfl⟩⟩
theorem Ob.nil (w : World) : Ob w (.slice none 0 0) [] := .inl ⟨rfl, rfl⟩
theorem Ob.of_own {w : World} {B : Nat} {v : Value} {l : List UInt8} (h : w.ownsRow B 5 1 v l.length (u8s l)) : Ob w v l := by
  rcases h.2 with ⟨rfl, e⟩ | ⟨g, cap, cur, rfl, _, hh, hn, hm, hs, ht⟩
  · exact .inl ⟨rfl, List.eq_nil_of_length_eq_zero e⟩
  · refine .inr ⟨g, 0, cap, cur.toList, rfl, by simpa [Cs] using hh, by simp; omega, hn, fun i u hu => ?_⟩
    rw [← ht, List.getElem?_take] at hu
    rw [Nat.zero_add]
    split at hu
    · exact hu
    · cases hu
theorem Ob.bytes {w : World} {v : Value} {l : List UInt8} (h : Ob w v l) : BytesOf w v l := by
  rcases h with ⟨rfl, rfl⟩ | ⟨g, off, cap, cs, rfl, hg, _, _, hc⟩
  · exact RowOf.nil w 0
  · refine ⟨_, _, rfl, u8s_len l, fun _ => ⟨g, off, rfl, kb_lt hg, fun j u hu => ?_⟩⟩
    rw [hg.at]; exact hc j u hu
theorem Ob.keep {w w' : World} {v : Value} {l : List UInt8} {S : Nat → Prop} (h : Ob w v l) (k : Keep S w w') (hn : ∀ b, v.ownBlock = some b → ¬ S b) : Ob w' v l := by
  rcases h with h | ⟨g, off, cap, cs, rfl, hg, h⟩
  · exact .inl h
  · exact .inr ⟨g, off, cap, cs, rfl, hg.keep k (hn g rfl), h⟩
theorem Ob.below {w w' : World} {v : Value} {l : List UInt8} (h : Ob w v l) (k : Below w.heap.size w w') : Ob w' v l := by
  rcases h with h | ⟨g, off, cap, cs, rfl, hg, h⟩
  · exact .inl h
  · exact .inr ⟨g, off, cap, cs, rfl, hg.below k, h⟩
theorem Ob.lt {w : World} {v : Value} {l : List UInt8} (h : Ob w v l) : ∀ k, v.ownBlock = some k → k < w.heap.size := by
  intro k hk
  rcases h with ⟨rfl, _⟩ | ⟨g, off, cap, cs, rfl, hg, h⟩
  · simp [Value.ownBlock] at hk
  · simp [Value.ownBlock] at hk
    subst hk; exact kb_lt hg
/-- The bytes behind some. -/
theorem Ob.drop {w : World} {l : List UInt8} {g off cap k : Nat} (h : Ob w (.slice (some ⟨g, off, none⟩) l.length cap) l) (hk : k ≤ l.length) : Ob w (.slice (some ⟨g, off + k, none⟩) (l.length - k) (cap - k)) (l.drop k) := by
  rcases h with ⟨e, _⟩ | ⟨g', off', cap', cs, e, hg, h1, h2, h3⟩
  · cases e
  · injection e with e1 e2 e3
    injection e1 with e1
    injection e1 with e1 e4
    subst e1 e4 e3
    refine .inr ⟨g, off + k, cap - k, cs, by rw [List.length_drop], hg, by omega, by rw [List.length_drop]; omega, fun i u hu => ?_⟩
    rw [← u8s_drop, List.getElem?_drop] at hu
    have := h3 _ _ hu
    rwa [← Nat.add_assoc] at this
theorem Ob.take {w : World} {l : List UInt8} {g off cap k : Nat} (h : Ob w (.slice (some ⟨g, off, none⟩) l.length cap) l) (hk : k ≤ l.length) : Ob w (.slice (some ⟨g, off, none⟩) k cap) (l.take k) := by
  rcases h with ⟨e, _⟩ | ⟨g', off', cap', cs, e, hg, h1, h2, h3⟩
  · cases e
  · injection e with e1 e2 e3
    injection e1 with e1
    injection e1 with e1 e4
    subst e1 e4 e3
    refine .inr ⟨g, off, cap, cs, by rw [List.length_take, Nat.min_eq_left hk], hg, h1, by rw [List.length_take]; omega, fun i u hu => ?_⟩
    rw [← u8s_take, List.getElem?_take] at hu
    split at hu
    · exact h3 _ _ hu
    · cases hu
theorem run_first {w : World} {u : Value} {b : List UInt8} (h : BytesOf w u b) : ∃ A c, u = .slice A b.length c ∧ (b.length ≠ 0 → ∃ a, A = some a) ∧ (Builtin.firstCells 1 b.length u).run Tryd.prog w = .ok (u8s b).toArray w := by
  obtain ⟨A, c, rfl, _, hc⟩ := h
  refine ⟨A, c, rfl, fun h0 => ?_, ?_⟩
  · obtain ⟨g, o, e, _⟩ := hc (by omega)
    exact ⟨_, e⟩
  · cases A with
    | none =>
      have : b.length = 0 := by
        rcases Nat.eq_zero_or_pos b.length with h | h
        · exact h
        · obtain ⟨g, o, e, _⟩ := hc h; cases e
      obtain rfl := List.eq_nil_of_length_eq_zero this
      simp [Builtin.firstCells, u8s]
    | some a =>
      refine run_firstCells_some (P := Tryd.prog) w 1 b.length a b.length c (u8s b) (by rw [u8s_len]; omega) fun j u hu => ?_
      have : 0 < b.length := by have := (List.getElem?_eq_some_iff.1 hu).1; rw [u8s_len] at this; omega
      obtain ⟨g, o, e, _, hh⟩ := hc this
      injection e with e; subst e
      rw [addr_add]; exact hh j u hu
theorem run_append_ob {w : World} {v u : Value} {l b : List UInt8} (H : Ob w v l) (hu : BytesOf w u b) (hn : l.length + b.length ≤ 1000000) (ty : Nat) :
    ∃ v' w', (Builtin.append_ #[22, 22] ty #[v, u]).run Tryd.prog w = .ok v' w' ∧ Ob w' v' (l ++ b) ∧ Keep (fun k => v.ownBlock = some k) w w' ∧ ∀ k, v'.ownBlock = some k → v.ownBlock = some k ∨ w.heap.size ≤ k := by
  obtain ⟨i, hi, hz, h1, h2⟩ := info_parts infoU
  rcases H with ⟨rfl, rfl⟩ | ⟨g, off, cap, cs, rfl, hg, hcs, hl, hcell⟩
  · obtain ⟨v', w', hr, h3, h4, _, h5⟩ := run_append_row (P := Tryd.prog) w w.heap.size 22 ty 5 i (.int .u8 0) 1 Tryd.underlying22 hi hz h1 h2 rfl (.slice none 0 0) 0 [] (World.ownsRow_nil _ _ _ _) u b.length (u8s b) hu (u8s_one b) (by unfold maxLen; simp at hn; omega) (by simp at hn; omega) (Nat.le_refl _)
    rw [Nat.zero_add, List.nil_append] at h3
    refine ⟨v', w', hr, Ob.of_own h3, (Keep.refl _ w).grown h4 (fun b _ e => by simp [Value.ownBlock] at e), fun k hk => .inr (h3.lt k hk).1⟩
  · obtain ⟨A, c, rfl, hA, hf⟩ := run_first hu
    have hbl : (u8s b).length = b.length := u8s_len b
    by_cases hroom : l.length + b.length ≤ cap
    · have hst := run_storeCells_cells (P := Tryd.prog) g (off + l.length) (u8s b) 0 w (fun j hj => by
        rw [hg.at, List.getElem?_eq_getElem (by omega)]; rfl) (fun j hj => hg.fz _) (u8s_one b)
      rw [← addr_add, Nat.add_zero] at hst
      refine ⟨.slice (some ⟨g, off, none⟩) (l.length + b.length) cap, w.setCells g (off + l.length) (u8s b), ?_, .inr ⟨g, off, cap, (updC cs.toArray (off + l.length) (u8s b)).toList, by rw [List.length_append], ?_, ?_, by rw [List.length_append]; omega, fun i u hu => ?_⟩, keep_cells _ _ (Keep.refl _ w) (fun _ => rfl), fun k hk => .inl hk⟩
      · simp [Builtin.append_, run_underlying Tryd.underlying22, sizeOf, typeInfo, hi, h1, Builtin.lenOf, hroom, hf, hst]
      · have := setCells_at (u8s b) w cs.toArray (off + l.length) hg
        simpa [Cs] using this
      · simp [updC_size]; omega
      · rw [Array.getElem?_toList, updC_get _ _ _ (by simp; omega)]
        rw [u8s_append] at hu
        by_cases hil : i < l.length
        · rw [if_neg (by omega)]
          rw [List.getElem?_append_left (by rw [u8s_len]; exact hil)] at hu
          simpa using hcell i u hu
        · rw [List.getElem?_append_right (by rw [u8s_len]; omega), u8s_len] at hu
          have hi2 := (List.getElem?_eq_some_iff.1 hu).1
          rw [if_pos (by omega), show off + i - (off + l.length) = i - l.length by omega]
          exact hu
    · obtain ⟨a, rfl⟩ := hA (by omega)
      obtain ⟨A2, c2, e2, _, hc2⟩ := hu
      injection e2 with e2 e3 e4
      subst e2
      obtain ⟨gb, ob, e5, _, hcb⟩ := hc2 (by omega)
      injection e5 with e5
      subst e5
      have hr := run_append_grow (P := Tryd.prog) w 22 ty 5 i (.int .u8 0) Tryd.underlying22 hi hz ⟨g, off, none⟩ l.length cap (u8s l) (by rw [h1, u8s_len]; omega) (fun j u hu => by rw [addr_add, hg.at]; exact hcell j u hu)
        ⟨gb, ob, none⟩ b.length c (u8s b) (by rw [h1, u8s_len]; omega) (fun j u hu => by rw [addr_add]; exact hcb j u hu) (by omega) (by omega) (growslice_fits (by omega) (by rw [h2]; omega))
      have hge := grownCap_ge w (l.length + b.length) cap 5
      refine ⟨_, _, hr, .inr ⟨w.heap.size, 0, grownCap w (l.length + b.length) cap 5, _, by rw [List.length_append], show Cs _ _ _ ((u8s l ++ u8s b) ++ (Builtin.zeroCells (Value.int .u8 0).cells (grownCap w (l.length + b.length) cap 5 - (l.length + b.length))).toList) from ?_, ?_, by rw [List.length_append]; exact hge, fun i u hu => ?_⟩, (Keep.refl _ w).drew.alloc _, fun k hk => ?_⟩
      · have e : ((u8s l ++ u8s b) ++ (Builtin.zeroCells (Value.int .u8 0).cells (grownCap w (l.length + b.length) cap 5 - (l.length + b.length))).toList).toArray = (u8s l).toArray ++ (u8s b).toArray ++ Builtin.zeroCells (Value.int .u8 0).cells (grownCap w (l.length + b.length) cap 5 - (l.length + b.length)) := by simp
        unfold Cs
        rw [e]
        exact heap_alloc_new w.drew _
      · simp [u8s_len, size_zeroCells, Value.cells]; omega
      · rw [u8s_append] at hu
        rw [Nat.zero_add, List.getElem?_append_left (by exact (List.getElem?_eq_some_iff.1 hu).1)]
        exact hu
      · simp [Value.ownBlock] at hk
        exact .inr (by omega)
theorem wpList_append_ob {ops : Array Oper} {rest : List Oper} {o : Oper} {a : Act} {w : World} {Q : Exit → Act → World → Prop} (hgd : o.guard = none) (s x : Operand)
    (ho : o.op = .call { callee := .builtin .append, args := #[s, x], argTypes := #[22, 22] }) {v u : Value} {l b : List UInt8} (hs : a.eval s = v) (hx : a.eval x = u) (H : Ob w v l) (hu : BytesOf w u b) (hn : l.length + b.length ≤ 1000000)
    (h : ∀ v' w', Ob w' v' (l ++ b) → Keep (fun k => v.ownBlock = some k) w w' → (∀ k, v'.ownBlock = some k → v.ownBlock = some k ∨ w.heap.size ≤ k) → wpList Tryd.prog ops Q rest (a.put o.dst v') w') : wpList Tryd.prog ops Q (o :: rest) a w := by
  refine wpList_plain hgd fun K hK => ?_
  obtain ⟨v', w', hr, h2, h3, h4⟩ := run_append_ob H hu hn o.type
  unfold Oper.wp execOp
  simp only [ho, resolve, invoke, builtin, Sem.run_bind, Sem.run_pure, Result.andThen_ok, List.map_toArray, List.map_cons, List.map_nil, hs, hx, hr]
  exact hK _ _ (h v' w' h2 h3 h4)

theorem zero_cells (k : Nat) : (Builtin.zeroCells (Value.int .u8 0).cells k).toList = u8s (zeros k) := by
  apply List.ext_getElem?
  intro i
  by_cases h : i < k
  · simp [Builtin.zeroCells, Value.cells, u8s, zeros, u8v, h, Nat.mod_one]
  · simp [Builtin.zeroCells, Value.cells, u8s, zeros, u8v, h]
/-- append of zeros. -/
theorem run_append_obz {w : World} {v : Value} {l : List UInt8} (H : Ob w v l) (k : Nat) (hn : l.length + k ≤ 1000000) (ty : Nat) :
    ∃ v' w', (Builtin.append_ #[22, 3] ty #[v, .int .i64 (k : Int)]).run Tryd.prog w = .ok v' w' ∧ Ob w' v' (l ++ zeros k) ∧ Keep (fun k => v.ownBlock = some k) w w' ∧ ∀ k, v'.ownBlock = some k → v.ownBlock = some k ∨ w.heap.size ≤ k := by
  obtain ⟨i, hi, hz, h1, h2⟩ := info_parts infoU
  have hw : IntKind.i64.wrap (k : Int) = k := by rw [IntKind.wrap_i64]; omega
  have w0 : IntKind.i64.wrap 0 = 0 := by decide
  have h48i : ¬ (281474976710656 < (k : Int)) := by omega
  have hneg : ¬ ((k : Int) < 0) := by omega
  rcases H with ⟨rfl, rfl⟩ | ⟨g, off, cap, cs, rfl, hg, hcs, hl, hcell⟩
  · by_cases hk : k = 0
    · subst hk
      refine ⟨.slice none 0 0, w, ?_, by simpa [zeros] using Ob.nil w, Keep.refl _ _, fun k hk => .inl hk⟩
      simp [Builtin.append_, run_underlying Tryd.underlying22, run_underlying Tryd.underlying3, sizeOf, typeInfo, hi, h1, h2, asInt, asIntOf, w0]
    · have hr := Lib.run_append_nil_zeros (P := Tryd.prog) w 22 3 ty 5 i (.int .u8 0) .i64 .i64 Tryd.underlying22 Tryd.underlying3 hi hz k (by omega) (by omega) (by omega) (by rw [h2]; omega)
      have hge := grownCap_ge w k 0 5
      refine ⟨_, _, hr, .inr ⟨w.heap.size, 0, grownCap w k 0 5, u8s (zeros k) ++ (Builtin.zeroCells (Value.int .u8 0).cells (grownCap w k 0 5 - k)).toList, by simp [zeros_len], ?_, ?_, by simpa [zeros_len] using hge, fun i u hu => ?_⟩, (Keep.refl _ w).drew.alloc _, fun k hk => ?_⟩
      · have e : (u8s (zeros k) ++ (Builtin.zeroCells (Value.int .u8 0).cells (grownCap w k 0 5 - k)).toList).toArray = Builtin.zeroCells (Value.int .u8 0).cells k ++ Builtin.zeroCells (Value.int .u8 0).cells (grownCap w k 0 5 - k) := by rw [← zero_cells]; simp
        unfold Cs
        rw [e]
        exact heap_alloc_new w.drew _
      · simp [u8s_len, size_zeroCells, Value.cells, zeros_len]; omega
      · rw [Nat.zero_add, List.getElem?_append_left (by have := (List.getElem?_eq_some_iff.1 hu).1; simpa using this)]
        simpa using hu
      · simp [Value.ownBlock] at hk
        exact .inr (by omega)
  · by_cases hroom : l.length + k ≤ cap
    · have hf : (if k = 0 then #[] else Builtin.zeroCells (Value.int .u8 0).cells k).toList = u8s (zeros k) := by
        split
        · rename_i h; subst h; rfl
        · exact zero_cells k
      have hbl : (u8s (zeros k)).length = k := by rw [u8s_len, zeros_len]
      have hst := run_storeCells_cells (P := Tryd.prog) g (off + l.length) (u8s (zeros k)) 0 w (fun j hj => by
        rw [hg.at, List.getElem?_eq_getElem (by omega)]; rfl) (fun j hj => hg.fz _) (u8s_one _)
      rw [← addr_add, Nat.add_zero] at hst
      refine ⟨.slice (some ⟨g, off, none⟩) (l.length + k) cap, w.setCells g (off + l.length) (u8s (zeros k)), ?_, .inr ⟨g, off, cap, (updC cs.toArray (off + l.length) (u8s (zeros k))).toList, by rw [List.length_append, zeros_len], ?_, ?_, by rw [List.length_append, zeros_len]; omega, fun i u hu => ?_⟩, keep_cells _ _ (Keep.refl _ w) (fun _ => rfl), fun k hk => .inl hk⟩
      · by_cases hk : k = 0
        · subst hk
          simp [Builtin.append_, run_underlying Tryd.underlying22, run_underlying Tryd.underlying3, sizeOf, typeInfo, hi, h1, h2, asInt, asIntOf, w0, zeros, u8s, storeCells, hl, World.setCells]
        · rw [if_neg hk] at hf
          simp [Builtin.append_, run_underlying Tryd.underlying22, run_underlying Tryd.underlying3, sizeOf, typeInfo, zeroValue, hi, hz, h1, h2, asInt, asIntOf, hw, hneg, h48i, hroom, hk, hf, hst]
      · have := setCells_at (u8s (zeros k)) w cs.toArray (off + l.length) hg
        simpa [Cs] using this
      · simp [updC_size]; omega
      · rw [Array.getElem?_toList, updC_get _ _ _ (by simp; omega)]
        rw [u8s_append] at hu
        by_cases hil : i < l.length
        · rw [if_neg (by omega)]
          rw [List.getElem?_append_left (by rw [u8s_len]; exact hil)] at hu
          simpa using hcell i u hu
        · rw [List.getElem?_append_right (by rw [u8s_len]; omega), u8s_len] at hu
          have hi2 := (List.getElem?_eq_some_iff.1 hu).1
          rw [if_pos (by omega), show off + i - (off + l.length) = i - l.length by omega]
          exact hu
    · have hold := run_firstCells_some (P := Tryd.prog) w.drew i.size l.length ⟨g, off, none⟩ l.length cap (u8s l) (by rw [h1, u8s_len]; omega) (fun j u hu => by
        rw [addr_add]; exact (hg.at _).trans (hcell j u hu))
      have hr := Lib.run_append_grow_zeros (P := Tryd.prog) w 22 3 ty 5 i (.int .u8 0) .i64 .i64 Tryd.underlying22 Tryd.underlying3 hi hz (some ⟨g, off, none⟩) l.length cap (u8s l) hold k (by omega) (by omega) (by omega) (by omega) (by rw [h2]; omega) (growslice_fits (by omega) (by rw [h2]; omega))
      have hge := grownCap_ge w (l.length + k) cap 5
      refine ⟨_, _, hr, .inr ⟨w.heap.size, 0, grownCap w (l.length + k) cap 5, (u8s l ++ u8s (zeros k)) ++ (Builtin.zeroCells (Value.int .u8 0).cells (grownCap w (l.length + k) cap 5 - (l.length + k))).toList, by simp [zeros_len], ?_, ?_, by rw [List.length_append, zeros_len]; exact hge, fun i u hu => ?_⟩, (Keep.refl _ w).drew.alloc _, fun k hk => ?_⟩
      · have e : ((u8s l ++ u8s (zeros k)) ++ (Builtin.zeroCells (Value.int .u8 0).cells (grownCap w (l.length + k) cap 5 - (l.length + k))).toList).toArray = (u8s l).toArray ++ Builtin.zeroCells (Value.int .u8 0).cells k ++ Builtin.zeroCells (Value.int .u8 0).cells (grownCap w (l.length + k) cap 5 - (l.length + k)) := by rw [← zero_cells]; simp
        unfold Cs
        rw [e]
        exact heap_alloc_new w.drew _
      · simp [u8s_len, size_zeroCells, Value.cells, zeros_len]; omega
      · rw [u8s_append] at hu
        rw [Nat.zero_add, List.getElem?_append_left (by exact (List.getElem?_eq_some_iff.1 hu).1)]
        exact hu
      · simp [Value.ownBlock] at hk
        exact .inr (by omega)
theorem wpList_append_obz {ops : Array Oper} {rest : List Oper} {o : Oper} {a : Act} {w : World} {Q : Exit → Act → World → Prop} (hgd : o.guard = none) (s x : Operand)
    (ho : o.op = .call { callee := .builtin .append, args := #[s, x], argTypes := #[22, 3] }) {v : Value} {l : List UInt8} (k : Nat) (hs : a.eval s = v) (hx : a.eval x = .int .i64 (k : Int)) (H : Ob w v l) (hn : l.length + k ≤ 1000000)
    (h : ∀ v' w', Ob w' v' (l ++ zeros k) → Keep (fun k => v.ownBlock = some k) w w' → (∀ k, v'.ownBlock = some k → v.ownBlock = some k ∨ w.heap.size ≤ k) → wpList Tryd.prog ops Q rest (a.put o.dst v') w') : wpList Tryd.prog ops Q (o :: rest) a w := by
  obtain ⟨v', w', hr, h2, h3, h4⟩ := run_append_obz H k hn o.type
  exact Lib.wpList_append_run w hgd s x _ _ ho _ _ hs hx v' w' hr (h v' w' h2 h3 h4)
theorem step_append_obz {ops : Array Oper} {o : Oper} {a : Act} {w : World} {K : Act → World → Prop} {Q : Exit → Act → World → Prop} {E : Prop} (hgd : o.guard = none) (s x : Operand)
    (ho : o.op = .call { callee := .builtin .append, args := #[s, x], argTypes := #[22, 3] }) {v : Value} {l : List UInt8} (k : Nat) (hs : a.eval s = v) (hx : a.eval x = .int .i64 (k : Int)) (H : Ob w v l) (hn : l.length + k ≤ 1000000)
    (h : ∀ v' w', Ob w' v' (l ++ zeros k) → Keep (fun k => v.ownBlock = some k) w w' → (∀ k, v'.ownBlock = some k → v.ownBlock = some k ∨ w.heap.size ≤ k) → K (a.put o.dst v') w') :
    if Region.wanted o (yielded ops a.tmps) = true then Oper.wp Tryd.prog o a w K Q else E := by
  have hw : Region.wanted o (yielded ops a.tmps) = true := by simp [Region.wanted, hgd]
  rw [if_pos hw]
  obtain ⟨v', w', hr, h2, h3, h4⟩ := run_append_obz H k hn o.type
  exact Lib.wp_append_run w s x _ _ ho _ _ hs hx v' w' hr (h v' w' h2 h3 h4)

/-- A state, whole. -/
structure St (w : World) (p c : Nat) (s : S) (v : Value) : Prop where
  st : Stt w p c s.h s.n v
  ob : Ob w v s.l
  ne : ∀ k, v.ownBlock = some k → k ≠ p ∧ k ≠ c
theorem St.keep {w w' : World} {p c : Nat} {s : S} {v : Value} {T : Nat → Prop} (H : St w p c s v) (k : Keep T w w') (hp : ¬ T p) (hc : ¬ T c) (hv : ∀ b, v.ownBlock = some b → ¬ T b) : St w' p c s v := ⟨H.st.keep k hp hc, H.ob.keep k hv, H.ne⟩
theorem St.below {w w' : World} {p c : Nat} {s : S} {v : Value} (H : St w p c s v) (k : Below w.heap.size w w') : St w' p c s v := ⟨H.st.below k, H.ob.below k, H.ne⟩
/-- How many bytes a state holds back, read off its variable. -/
def restLen (w : World) (p : Nat) : Nat := match w.cell? ⟨p, 9, none⟩ with
  | some (.slice _ n _) => n
  | _ => 0
theorem St.rest {w : World} {p c : Nat} {s : S} {v : Value} (H : St w p c s v) : restLen w p = s.l.length := by
  obtain ⟨A, cap, rfl, _⟩ := H.ob.form
  unfold restLen
  rw [H.st.c9]
end Go.Proofs.YtmfajippoielhaaDoor
