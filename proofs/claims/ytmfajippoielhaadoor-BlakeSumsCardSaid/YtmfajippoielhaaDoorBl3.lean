/- Whole arrays: loads, stores, results. Printed by wip/mkbl3.py. -/
import Derived.Test.YtmfajippoielhaaDoorBl2
import Derived.BigFrame
namespace Go.Proofs.YtmfajippoielhaaDoor
open Go.RowKit Go.Proofs.YtmfajippoielhaaDoor.Bl BigFrame
set_option linter.unusedSimpArgs false
set_option linter.unusedVariables false

/-- Cells that lie in a block of their own. -/
def Cs (w : World) (b t : Nat) (cs : List Value) : Prop := w.heap[b]? = some (.cells cs.toArray t (0, 0))
theorem Cs.below {w w' : World} {b t : Nat} {cs : List Value} (h : Cs w b t cs) (k : Below w.heap.size w w') : Cs w' b t cs := kb_below k h
theorem Cs.keep {w w' : World} {b t : Nat} {cs : List Value} {S : Nat → Prop} (h : Cs w b t cs) (k : Keep S w w') (hn : ¬ S b) : Cs w' b t cs := k.kb h hn
theorem Cs.at {w : World} {b t : Nat} {cs : List Value} (h : Cs w b t cs) (i : Nat) : w.cell? ⟨b, i, none⟩ = cs[i]? := by rw [kb_cell h]; simp
theorem Cs.fz {w : World} {b t : Nat} {cs : List Value} (h : Cs w b t cs) (i : Nat) : w.frozen? ⟨b, i, none⟩ = false := kb_frozen h i
theorem Cs.put {w : World} {b t : Nat} {cs : List Value} (h : Cs w b t cs) (i : Nat) (u : Value) : Cs (w.setCell ⟨b, i, none⟩ u) b t (cs.set i u) := by
  have := kb_set (i := i) h u
  simpa [Cs] using this
theorem Cs.drew {w : World} {b t : Nat} {cs : List Value} (h : Cs w b t cs) : Cs w.drew b t cs := h
theorem Cs.range {w : World} {b t : Nat} {cs : List Value} (h : Cs w b t cs) : w.rangeAt b 0 cs := range_of_kb h
theorem Cs.new {w : World} {b t : Nat} (hb : b = w.heap.size) (cs : List Value) : Cs (w.alloc (.cells cs.toArray t)) b t cs := kb_new hb _
theorem Ws.cs {w : World} {b t : Nat} {V : List W} (h : Ws w b t V) : Cs w b t (wvs V) := h
theorem Cs.ws {w : World} {b t : Nat} {V : List W} (h : Cs w b t (wvs V)) : Ws w b t V := h
theorem size_16 : (Tryd.prog.info? 65).map (·.size) = some 16 := by kernel_rfl
theorem wpList_load_16 {ops : Array Oper} {rest : List Oper} {op : Oper} {a : Act} {w : World} {Q : Exit → Act → World → Prop} (x : Operand) (ho : op.op = .load 65 x) (hw : Region.wanted op (yielded ops a.tmps) = true) (b q : Nat) (hx : a.eval x = .pointer (some ⟨b, q, none⟩)) {cs : List Value}
    (h : w.rangeAt b q cs) (hl : cs.length = 16) (hk : wpList Tryd.prog ops Q rest (a.put op.dst (.agg cs.toArray)) w) : wpList Tryd.prog ops Q (op :: rest) a w :=
  BigFrame.wpList_want hw fun _ hK => wp_load_mid 65 x ho b q hx cs _ h Tryd.underlying65 rfl (size_16.trans (by rw [hl])) (hK _ _ hk)
theorem wpList_store_16 {ops : Array Oper} {rest : List Oper} {op : Oper} {a : Act} {w : World} {Q : Exit → Act → World → Prop} (hgd : op.guard = none) (x y : Operand) (ho : op.op = .store 65 x y) (b : Nat) (hx : a.eval x = .pointer (some ⟨b, 0, none⟩)) {cs cur : List Value} {t : Nat} (hy : a.eval y = .agg cs.toArray)
    (h : Cs w b t cur) (hs : cur.length = 16) (hl : cs.length = 16) (h1 : ∀ u ∈ cs, u.oneCell' = true)
    (hk : ∀ w', Cs w' b t cs → Keep (fun x => x = b) w w' → wpList Tryd.prog ops Q rest (a.put op.dst undef) w') : wpList Tryd.prog ops Q (op :: rest) a w := by
  have hL : cs.toArray.size = 16 := by simpa using hl
  exact wpList_store_mid hgd 65 x y ho b 0 cs.toArray hx hy (by rw [hL]; exact there_kb h (by simpa using hs)) (size_16.trans (by rw [hL])) (all_oneCell_toArray h1) (hk _ (setCells_kb cs h (by simp [hs, hl])) (keep_cells _ 0 (Keep.refl _ _) (fun _ => rfl)))
theorem wpList_stnew_16 {ops : Array Oper} {rest : List Oper} {op : Oper} {a : Act} {w : World} {Q : Exit → Act → World → Prop} {c : Array Value} {t : TypeId} (hgd : op.guard = none) (x y : Operand) (ho : op.op = .store 65 x y) {cs : List Value} (hx : a.eval x = .pointer (some ⟨w.heap.size, 0, none⟩)) (hy : a.eval y = .agg cs.toArray)
    (hs : c.size = 16) (hl : cs.length = 16) (h1 : ∀ u ∈ cs, u.oneCell' = true)
    (hk : wpList Tryd.prog ops Q rest (a.put op.dst undef) (w.alloc (.cells cs.toArray t))) : wpList Tryd.prog ops Q (op :: rest) a (w.alloc (.cells c t)) :=
  wpList_store_new hgd 65 x y ho cs.toArray hx hy (by simp [hs, hl]) (size_16.trans (by simp [hl])) (all_oneCell_toArray h1) hk
theorem results_16 {fn : Func} {p : Tmp} (h : fn.results = #[.cell p 65]) (tmps : Array Value) (w : World) (g : Nat) {cs : List Value} (hl : cs.length = 16) (hp : tmps.getD p undef = .pointer (some ⟨g, 0, none⟩)) (hg : Cs w g 65 cs) :
    (results fn tmps).run Tryd.prog w = .ok (.agg cs.toArray) w :=
  results_cell_row h tmps w g 65 _ _ _ hp hg Tryd.underlying65 rfl (size_16.trans (by simpa using hl.symm))
theorem size_8 : (Tryd.prog.info? 33).map (·.size) = some 8 := by kernel_rfl
theorem wpList_load_8 {ops : Array Oper} {rest : List Oper} {op : Oper} {a : Act} {w : World} {Q : Exit → Act → World → Prop} (x : Operand) (ho : op.op = .load 33 x) (hw : Region.wanted op (yielded ops a.tmps) = true) (b q : Nat) (hx : a.eval x = .pointer (some ⟨b, q, none⟩)) {cs : List Value}
    (h : w.rangeAt b q cs) (hl : cs.length = 8) (hk : wpList Tryd.prog ops Q rest (a.put op.dst (.agg cs.toArray)) w) : wpList Tryd.prog ops Q (op :: rest) a w :=
  BigFrame.wpList_want hw fun _ hK => wp_load_mid 33 x ho b q hx cs _ h Tryd.underlying33 rfl (size_8.trans (by rw [hl])) (hK _ _ hk)
theorem wpList_store_8 {ops : Array Oper} {rest : List Oper} {op : Oper} {a : Act} {w : World} {Q : Exit → Act → World → Prop} (hgd : op.guard = none) (x y : Operand) (ho : op.op = .store 33 x y) (b : Nat) (hx : a.eval x = .pointer (some ⟨b, 0, none⟩)) {cs cur : List Value} {t : Nat} (hy : a.eval y = .agg cs.toArray)
    (h : Cs w b t cur) (hs : cur.length = 8) (hl : cs.length = 8) (h1 : ∀ u ∈ cs, u.oneCell' = true)
    (hk : ∀ w', Cs w' b t cs → Keep (fun x => x = b) w w' → wpList Tryd.prog ops Q rest (a.put op.dst undef) w') : wpList Tryd.prog ops Q (op :: rest) a w := by
  have hL : cs.toArray.size = 8 := by simpa using hl
  exact wpList_store_mid hgd 33 x y ho b 0 cs.toArray hx hy (by rw [hL]; exact there_kb h (by simpa using hs)) (size_8.trans (by rw [hL])) (all_oneCell_toArray h1) (hk _ (setCells_kb cs h (by simp [hs, hl])) (keep_cells _ 0 (Keep.refl _ _) (fun _ => rfl)))
theorem wpList_stnew_8 {ops : Array Oper} {rest : List Oper} {op : Oper} {a : Act} {w : World} {Q : Exit → Act → World → Prop} {c : Array Value} {t : TypeId} (hgd : op.guard = none) (x y : Operand) (ho : op.op = .store 33 x y) {cs : List Value} (hx : a.eval x = .pointer (some ⟨w.heap.size, 0, none⟩)) (hy : a.eval y = .agg cs.toArray)
    (hs : c.size = 8) (hl : cs.length = 8) (h1 : ∀ u ∈ cs, u.oneCell' = true)
    (hk : wpList Tryd.prog ops Q rest (a.put op.dst undef) (w.alloc (.cells cs.toArray t))) : wpList Tryd.prog ops Q (op :: rest) a (w.alloc (.cells c t)) :=
  wpList_store_new hgd 33 x y ho cs.toArray hx hy (by simp [hs, hl]) (size_8.trans (by simp [hl])) (all_oneCell_toArray h1) hk
theorem results_8 {fn : Func} {p : Tmp} (h : fn.results = #[.cell p 33]) (tmps : Array Value) (w : World) (g : Nat) {cs : List Value} (hl : cs.length = 8) (hp : tmps.getD p undef = .pointer (some ⟨g, 0, none⟩)) (hg : Cs w g 33 cs) :
    (results fn tmps).run Tryd.prog w = .ok (.agg cs.toArray) w :=
  results_cell_row h tmps w g 33 _ _ _ hp hg Tryd.underlying33 rfl (size_8.trans (by simpa using hl.symm))
theorem size_w : (Tryd.prog.info? 34).map (·.size) = some 8 := by kernel_rfl
theorem wpList_load_w {ops : Array Oper} {rest : List Oper} {op : Oper} {a : Act} {w : World} {Q : Exit → Act → World → Prop} (x : Operand) (ho : op.op = .load 34 x) (hw : Region.wanted op (yielded ops a.tmps) = true) (b q : Nat) (hx : a.eval x = .pointer (some ⟨b, q, none⟩)) {cs : List Value}
    (h : w.rangeAt b q cs) (hl : cs.length = 8) (hk : wpList Tryd.prog ops Q rest (a.put op.dst (.agg cs.toArray)) w) : wpList Tryd.prog ops Q (op :: rest) a w :=
  BigFrame.wpList_want hw fun _ hK => wp_load_mid 34 x ho b q hx cs _ h Tryd.underlying34 rfl (size_w.trans (by rw [hl])) (hK _ _ hk)
theorem wpList_store_w {ops : Array Oper} {rest : List Oper} {op : Oper} {a : Act} {w : World} {Q : Exit → Act → World → Prop} (hgd : op.guard = none) (x y : Operand) (ho : op.op = .store 34 x y) (b : Nat) (hx : a.eval x = .pointer (some ⟨b, 0, none⟩)) {cs cur : List Value} {t : Nat} (hy : a.eval y = .agg cs.toArray)
    (h : Cs w b t cur) (hs : cur.length = 8) (hl : cs.length = 8) (h1 : ∀ u ∈ cs, u.oneCell' = true)
    (hk : ∀ w', Cs w' b t cs → Keep (fun x => x = b) w w' → wpList Tryd.prog ops Q rest (a.put op.dst undef) w') : wpList Tryd.prog ops Q (op :: rest) a w := by
  have hL : cs.toArray.size = 8 := by simpa using hl
  exact wpList_store_mid hgd 34 x y ho b 0 cs.toArray hx hy (by rw [hL]; exact there_kb h (by simpa using hs)) (size_w.trans (by rw [hL])) (all_oneCell_toArray h1) (hk _ (setCells_kb cs h (by simp [hs, hl])) (keep_cells _ 0 (Keep.refl _ _) (fun _ => rfl)))
theorem wpList_stnew_w {ops : Array Oper} {rest : List Oper} {op : Oper} {a : Act} {w : World} {Q : Exit → Act → World → Prop} {c : Array Value} {t : TypeId} (hgd : op.guard = none) (x y : Operand) (ho : op.op = .store 34 x y) {cs : List Value} (hx : a.eval x = .pointer (some ⟨w.heap.size, 0, none⟩)) (hy : a.eval y = .agg cs.toArray)
    (hs : c.size = 8) (hl : cs.length = 8) (h1 : ∀ u ∈ cs, u.oneCell' = true)
    (hk : wpList Tryd.prog ops Q rest (a.put op.dst undef) (w.alloc (.cells cs.toArray t))) : wpList Tryd.prog ops Q (op :: rest) a (w.alloc (.cells c t)) :=
  wpList_store_new hgd 34 x y ho cs.toArray hx hy (by simp [hs, hl]) (size_w.trans (by simp [hl])) (all_oneCell_toArray h1) hk
theorem results_w {fn : Func} {p : Tmp} (h : fn.results = #[.cell p 34]) (tmps : Array Value) (w : World) (g : Nat) {cs : List Value} (hl : cs.length = 8) (hp : tmps.getD p undef = .pointer (some ⟨g, 0, none⟩)) (hg : Cs w g 34 cs) :
    (results fn tmps).run Tryd.prog w = .ok (.agg cs.toArray) w :=
  results_cell_row h tmps w g 34 _ _ _ hp hg Tryd.underlying34 rfl (size_w.trans (by simpa using hl.symm))
theorem size_h : (Tryd.prog.info? 26).map (·.size) = some 32 := by kernel_rfl
theorem wpList_load_h {ops : Array Oper} {rest : List Oper} {op : Oper} {a : Act} {w : World} {Q : Exit → Act → World → Prop} (x : Operand) (ho : op.op = .load 26 x) (hw : Region.wanted op (yielded ops a.tmps) = true) (b q : Nat) (hx : a.eval x = .pointer (some ⟨b, q, none⟩)) {cs : List Value}
    (h : w.rangeAt b q cs) (hl : cs.length = 32) (hk : wpList Tryd.prog ops Q rest (a.put op.dst (.agg cs.toArray)) w) : wpList Tryd.prog ops Q (op :: rest) a w :=
  BigFrame.wpList_want hw fun _ hK => wp_load_mid 26 x ho b q hx cs _ h Tryd.underlying26 rfl (size_h.trans (by rw [hl])) (hK _ _ hk)
theorem wpList_store_h {ops : Array Oper} {rest : List Oper} {op : Oper} {a : Act} {w : World} {Q : Exit → Act → World → Prop} (hgd : op.guard = none) (x y : Operand) (ho : op.op = .store 26 x y) (b : Nat) (hx : a.eval x = .pointer (some ⟨b, 0, none⟩)) {cs cur : List Value} {t : Nat} (hy : a.eval y = .agg cs.toArray)
    (h : Cs w b t cur) (hs : cur.length = 32) (hl : cs.length = 32) (h1 : ∀ u ∈ cs, u.oneCell' = true)
    (hk : ∀ w', Cs w' b t cs → Keep (fun x => x = b) w w' → wpList Tryd.prog ops Q rest (a.put op.dst undef) w') : wpList Tryd.prog ops Q (op :: rest) a w := by
  have hL : cs.toArray.size = 32 := by simpa using hl
  exact wpList_store_mid hgd 26 x y ho b 0 cs.toArray hx hy (by rw [hL]; exact there_kb h (by simpa using hs)) (size_h.trans (by rw [hL])) (all_oneCell_toArray h1) (hk _ (setCells_kb cs h (by simp [hs, hl])) (keep_cells _ 0 (Keep.refl _ _) (fun _ => rfl)))
theorem wpList_stnew_h {ops : Array Oper} {rest : List Oper} {op : Oper} {a : Act} {w : World} {Q : Exit → Act → World → Prop} {c : Array Value} {t : TypeId} (hgd : op.guard = none) (x y : Operand) (ho : op.op = .store 26 x y) {cs : List Value} (hx : a.eval x = .pointer (some ⟨w.heap.size, 0, none⟩)) (hy : a.eval y = .agg cs.toArray)
    (hs : c.size = 32) (hl : cs.length = 32) (h1 : ∀ u ∈ cs, u.oneCell' = true)
    (hk : wpList Tryd.prog ops Q rest (a.put op.dst undef) (w.alloc (.cells cs.toArray t))) : wpList Tryd.prog ops Q (op :: rest) a (w.alloc (.cells c t)) :=
  wpList_store_new hgd 26 x y ho cs.toArray hx hy (by simp [hs, hl]) (size_h.trans (by simp [hl])) (all_oneCell_toArray h1) hk
theorem results_h {fn : Func} {p : Tmp} (h : fn.results = #[.cell p 26]) (tmps : Array Value) (w : World) (g : Nat) {cs : List Value} (hl : cs.length = 32) (hp : tmps.getD p undef = .pointer (some ⟨g, 0, none⟩)) (hg : Cs w g 26 cs) :
    (results fn tmps).run Tryd.prog w = .ok (.agg cs.toArray) w :=
  results_cell_row h tmps w g 26 _ _ _ hp hg Tryd.underlying26 rfl (size_h.trans (by simpa using hl.symm))
theorem size_r : (Tryd.prog.info? 67).map (·.size) = some 16 := by kernel_rfl
theorem wpList_load_r {ops : Array Oper} {rest : List Oper} {op : Oper} {a : Act} {w : World} {Q : Exit → Act → World → Prop} (x : Operand) (ho : op.op = .load 67 x) (hw : Region.wanted op (yielded ops a.tmps) = true) (b q : Nat) (hx : a.eval x = .pointer (some ⟨b, q, none⟩)) {cs : List Value}
    (h : w.rangeAt b q cs) (hl : cs.length = 16) (hk : wpList Tryd.prog ops Q rest (a.put op.dst (.agg cs.toArray)) w) : wpList Tryd.prog ops Q (op :: rest) a w :=
  BigFrame.wpList_want hw fun _ hK => wp_load_mid 67 x ho b q hx cs _ h Tryd.underlying67 rfl (size_r.trans (by rw [hl])) (hK _ _ hk)
theorem wpList_store_r {ops : Array Oper} {rest : List Oper} {op : Oper} {a : Act} {w : World} {Q : Exit → Act → World → Prop} (hgd : op.guard = none) (x y : Operand) (ho : op.op = .store 67 x y) (b : Nat) (hx : a.eval x = .pointer (some ⟨b, 0, none⟩)) {cs cur : List Value} {t : Nat} (hy : a.eval y = .agg cs.toArray)
    (h : Cs w b t cur) (hs : cur.length = 16) (hl : cs.length = 16) (h1 : ∀ u ∈ cs, u.oneCell' = true)
    (hk : ∀ w', Cs w' b t cs → Keep (fun x => x = b) w w' → wpList Tryd.prog ops Q rest (a.put op.dst undef) w') : wpList Tryd.prog ops Q (op :: rest) a w := by
  have hL : cs.toArray.size = 16 := by simpa using hl
  exact wpList_store_mid hgd 67 x y ho b 0 cs.toArray hx hy (by rw [hL]; exact there_kb h (by simpa using hs)) (size_r.trans (by rw [hL])) (all_oneCell_toArray h1) (hk _ (setCells_kb cs h (by simp [hs, hl])) (keep_cells _ 0 (Keep.refl _ _) (fun _ => rfl)))
theorem wpList_stnew_r {ops : Array Oper} {rest : List Oper} {op : Oper} {a : Act} {w : World} {Q : Exit → Act → World → Prop} {c : Array Value} {t : TypeId} (hgd : op.guard = none) (x y : Operand) (ho : op.op = .store 67 x y) {cs : List Value} (hx : a.eval x = .pointer (some ⟨w.heap.size, 0, none⟩)) (hy : a.eval y = .agg cs.toArray)
    (hs : c.size = 16) (hl : cs.length = 16) (h1 : ∀ u ∈ cs, u.oneCell' = true)
    (hk : wpList Tryd.prog ops Q rest (a.put op.dst undef) (w.alloc (.cells cs.toArray t))) : wpList Tryd.prog ops Q (op :: rest) a (w.alloc (.cells c t)) :=
  wpList_store_new hgd 67 x y ho cs.toArray hx hy (by simp [hs, hl]) (size_r.trans (by simp [hl])) (all_oneCell_toArray h1) hk
theorem results_r {fn : Func} {p : Tmp} (h : fn.results = #[.cell p 67]) (tmps : Array Value) (w : World) (g : Nat) {cs : List Value} (hl : cs.length = 16) (hp : tmps.getD p undef = .pointer (some ⟨g, 0, none⟩)) (hg : Cs w g 67 cs) :
    (results fn tmps).run Tryd.prog w = .ok (.agg cs.toArray) w :=
  results_cell_row h tmps w g 67 _ _ _ hp hg Tryd.underlying67 rfl (size_r.trans (by simpa using hl.symm))
end Go.Proofs.YtmfajippoielhaaDoor
