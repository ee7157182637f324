/- The document's table. -/
import Derived.Test.YtmfajippoielhaaDoorBl5
import Derived.Test.YtmfajippoielhaaDoorBl4
namespace Go.Proofs.YtmfajippoielhaaDoor
open Go.RowKit Go.Proofs.YtmfajippoielhaaDoor.Bl
set_option linter.unusedSimpArgs false
set_option linter.unusedVariables false
attribute [local go_sem] cell_alloc_some frozen_alloc_some

def ivs (l : List Nat) : List Value := l.map fun (n : Nat) => .int .i64 (n : Int)
/-- A row of the table. -/
def rowV (r : Nat) : List Value := ivs (sig.getD r [])
def allV : List Value := ivs sig.flatten
theorem wpList_build_c {ops : Array Oper} {rest : List Oper} {op : Oper} {s : Act} {w : World} {Q : Exit → Act → World → Prop} (hgd : op.guard = none) (t : TypeId) (parts : Array (Nat × Operand)) (ho : op.op = .build t parts) (cs : Array Value)
    (hb : Tryd.prog.built t (parts.map fun p => (p.1, s.eval p.2)).toList = some cs) (hk : wpList Tryd.prog ops Q rest (s.put op.dst (.agg cs)) w) : wpList Tryd.prog ops Q (op :: rest) s w :=
  wpList_plain hgd fun K hK => by
    have hr := run_build (P := Tryd.prog) w t (parts.map fun p => (p.1, s.eval p.2)) _ hb
    unfold Oper.wp execOp
    simp only [ho, Sem.run_bind]
    rw [hr]
    simp only [Result.andThen_ok]
    exact hK _ _ hk
theorem allV_len : allV.length = 160 := by decide +kernel
theorem rowV_len {r : Nat} (h : r < 10) : (rowV r).length = 16 := by
  have : ∀ r : Fin 10, (rowV r.1).length = 16 := by decide +kernel
  exact this ⟨r, h⟩
theorem rowV_at {r k : Nat} (hr : r < 10) (hk : k < 16) : (rowV r)[k]? = some (.int .i64 (sg r k : Int)) := by
  have hl : (sig.getD r []).length = 16 := by have := rowV_len hr; simpa [rowV, ivs] using this
  unfold rowV ivs sg
  rw [List.getElem?_map, List.getElem?_eq_getElem (by omega), List.getD_eq_getElem?_getD (l := sig.getD r []), List.getElem?_eq_getElem (by omega)]; rfl
theorem allV_at {r k : Nat} (hr : r < 10) (hk : k < 16) : allV[r * 16 + k]? = (rowV r)[k]? := by
  have : ∀ r : Fin 10, ∀ k : Fin 16, sig.flatten[r.1 * 16 + k.1]? = (sig.getD r.1 [])[k.1]? := by decide +kernel
  have h := this ⟨r, hr⟩ ⟨k, hk⟩
  unfold allV rowV ivs
  rw [List.getElem?_map, List.getElem?_map]
  rw [show sig.flatten[r * 16 + k]? = (sig.getD r [])[k]? from h]
theorem ivs_one (l : List Nat) : ∀ u ∈ ivs l, u.oneCell' = true := by
  intro u hu
  obtain ⟨c, _, rfl⟩ := List.mem_map.1 hu
  rfl
theorem size_all : (Tryd.prog.info? 84).map (·.size) = some 160 := by kernel_rfl
theorem wpList_stnew_all {ops : Array Oper} {rest : List Oper} {op : Oper} {a : Act} {w : World} {Q : Exit → Act → World → Prop} {c : Array Value} {t : TypeId} (hgd : op.guard = none) (x y : Operand) (ho : op.op = .store 84 x y) {cs : List Value} (hx : a.eval x = .pointer (some ⟨w.heap.size, 0, none⟩)) (hy : a.eval y = .agg cs.toArray)
    (hs : c.size = 160) (hl : cs.length = 160) (h1 : ∀ u ∈ cs, u.oneCell' = true)
    (hk : wpList Tryd.prog ops Q rest (a.put op.dst undef) (w.alloc (.cells cs.toArray t))) : wpList Tryd.prog ops Q (op :: rest) a (w.alloc (.cells c t)) :=
  wpList_store_new hgd 84 x y ho cs.toArray hx hy (by simp [hs, hl]) (size_all.trans (by simp [hl])) (all_oneCell_toArray h1) hk
set_option maxRecDepth 100000 in
set_option maxHeartbeats 1000000 in
theorem rrow_any {r : Nat} (hr : r < 10) (w : World) : Calls Tryd.prog 40 #[.int .i64 (r : Int)] w fun e w' => e = .returned (.agg (rowV r).toArray) ∧ Below w.heap.size w w' := by
  go_enter Tryd.func40, Tryd.ntmps40
  go_upto_region 1 with fail
  refine wp_world fun w1 hw => ?_
  have b1 : Below w.heap.size w w1 := by rw [hw]; exact bl_alloc (Below.refl _ _) _
  have C1 : Cs w1 w.heap.size 67 (ivs (List.replicate 16 0)) := by rw [hw]; exact kb_new rfl _
  have s1 : w1.heap.size = w.heap.size + 1 := by rw [hw]; simp
  clear hw
  have H1 := Lib.hid (And.intro C1 (And.intro b1 s1))
  clear b1 C1 s1
  go_upto_region 2 with (first
    | (with_reducible show wpList _ _ _ (⟨some 4, _, _, _, _, _⟩ :: _) _ _; refine wpList_build_c rfl _ _ rfl (rowV 0).toArray (by kernel_rfl) ?_)
    | (with_reducible show wpList _ _ _ (⟨some 5, _, _, _, _, _⟩ :: _) _ _; refine wpList_build_c rfl _ _ rfl (rowV 1).toArray (by kernel_rfl) ?_)
    | (with_reducible show wpList _ _ _ (⟨some 6, _, _, _, _, _⟩ :: _) _ _; refine wpList_build_c rfl _ _ rfl (rowV 2).toArray (by kernel_rfl) ?_)
    | (with_reducible show wpList _ _ _ (⟨some 7, _, _, _, _, _⟩ :: _) _ _; refine wpList_build_c rfl _ _ rfl (rowV 3).toArray (by kernel_rfl) ?_)
    | (with_reducible show wpList _ _ _ (⟨some 8, _, _, _, _, _⟩ :: _) _ _; refine wpList_build_c rfl _ _ rfl (rowV 4).toArray (by kernel_rfl) ?_)
    | (with_reducible show wpList _ _ _ (⟨some 9, _, _, _, _, _⟩ :: _) _ _; refine wpList_build_c rfl _ _ rfl (rowV 5).toArray (by kernel_rfl) ?_)
    | (with_reducible show wpList _ _ _ (⟨some 10, _, _, _, _, _⟩ :: _) _ _; refine wpList_build_c rfl _ _ rfl (rowV 6).toArray (by kernel_rfl) ?_)
    | (with_reducible show wpList _ _ _ (⟨some 11, _, _, _, _, _⟩ :: _) _ _; refine wpList_build_c rfl _ _ rfl (rowV 7).toArray (by kernel_rfl) ?_)
    | (with_reducible show wpList _ _ _ (⟨some 12, _, _, _, _, _⟩ :: _) _ _; refine wpList_build_c rfl _ _ rfl (rowV 8).toArray (by kernel_rfl) ?_)
    | (with_reducible show wpList _ _ _ (⟨some 13, _, _, _, _, _⟩ :: _) _ _; refine wpList_build_c rfl _ _ rfl (rowV 9).toArray (by kernel_rfl) ?_)
    | (with_reducible show wpList _ _ _ (⟨some 14, _, _, _, _, _⟩ :: _) _ _; refine wpList_build_c rfl _ _ rfl allV.toArray (by kernel_rfl) ?_)
    | (refine wpList_stnew_all (op := ⟨none, .store 84 _ _, _, _, _, _⟩) (cs := allV) rfl _ _ rfl rfl rfl rfl allV_len (ivs_one _) ?_))
  have hd : Cs (w1.alloc (.cells allV.toArray 84)) w1.heap.size 84 allV := Cs.new rfl _
  have hrg : (w1.alloc (.cells allV.toArray 84)).rangeAt w1.heap.size (r * 16) (rowV r) := fun j v hj => by
    have hjl := (List.getElem?_eq_some_iff.1 hj).1
    rw [rowV_len hr] at hjl
    rw [hd.at, allV_at hr hjl]; exact hj
  have C2 := Lib.hid (And.intro (kb_alloc H1.out.1 (.cells allV.toArray 84)) (bl_alloc H1.out.2.1 (.cells allV.toArray 84)))
  clear hd H1
  have hrl := rowV_len hr
  have hri : ∀ u ∈ rowV r, u.oneCell' = true := ivs_one _
  have hr16 : (r : Int) < 10 := by omega
  generalize w1.alloc (.cells allV.toArray 84) = w2 at *
  generalize hE : rowV r = R at *
  have HE := Lib.hid hE
  clear hE
  go_wp2_with (first
    | (with_reducible show wpList _ _ _ (⟨some 17, _, _, _, _, _⟩ :: _) _ _; refine wpList_load_r _ rfl rfl w1.heap.size (r * 16) rfl hrg hrl ?_)
    | (refine wpList_store_r (op := ⟨none, .store 67 _ _, _, _, _, _⟩) (cs := R) rfl _ _ rfl w.heap.size rfl rfl C2.out.1 rfl hrl hri ?_; intro w9 c9 k9))
  refine bodyPost_ret (results_r rfl _ _ w.heap.size (cs := R) hrl rfl c9) rfl ⟨by rw [HE.out], ?_⟩
  exact ((Keep.of_below (S := fun _ => False) C2.out.2).trans k9 (fun b hb e => by omega)).below (Nat.le_refl _) (fun b e => e.elim)
end Go.Proofs.YtmfajippoielhaaDoor
