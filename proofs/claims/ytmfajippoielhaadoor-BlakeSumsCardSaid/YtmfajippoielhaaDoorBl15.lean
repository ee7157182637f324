/- BlakeNone's walk. -/
import Derived.Test.YtmfajippoielhaaDoorBl14
namespace Go.Proofs.YtmfajippoielhaaDoor
open Go.RowKit Go.Proofs.YtmfajippoielhaaDoor.Bl BigFrame
set_option linter.unusedSimpArgs false
set_option linter.unusedVariables false
attribute [local go_sem] cell_alloc_some frozen_alloc_some

theorem Nobody.below {w w' : World} {s : Value} (h : Nobody w s) (k : Below w.heap.size w w') : Nobody w' s := by
  rcases h with h | ⟨p, h, hp⟩
  · exact .inl h
  · exact .inr ⟨p, h, (k.cell (p := ⟨p, 0, none⟩) (World.block_lt_of_cell? w _ hp)).trans hp⟩
/-- An empty hash is built (guarded). -/
theorem wpList_build_0g {ops : Array Oper} {rest : List Oper} {op : Oper} {s : Act} {w : World} {Q : Exit → Act → World → Prop} (hw : Region.wanted op (yielded ops s.tmps) = true) (ho : op.op = .build 26 #[])
    (hk : wpList Tryd.prog ops Q rest (s.put op.dst (.agg (u8s (zeros 32)).toArray)) w) : wpList Tryd.prog ops Q (op :: rest) s w :=
  BigFrame.wpList_want hw fun K hK => by
    have hr := run_build (P := Tryd.prog) w 26 #[] _ built_0
    unfold Oper.wp execOp
    simp only [ho, List.map_toArray, List.map_nil, Sem.run_bind, hr, Result.andThen_ok]
    exact hK _ _ hk
set_option maxRecDepth 100000 in
set_option maxHeartbeats 1000000 in
theorem BlakeNone_walk {w : World} {x : Value} {b : List UInt8} (hx : BytesOf w x b) :
    Calls Tryd.prog 4 #[x] w fun e w' => e = .returned (.bool true) ∧ Below w.heap.size w w' := by
  obtain ⟨A, cap, hv⟩ := RowOf.form hx
  subst hv
  clear hx
  go_enter Tryd.func4, Tryd.ntmps4
  by_cases hb : b.length ≤ 200
  · have hb' : ¬ 200 < b.length := by omega
    clear hb
    go_upto_region 4 with fail
    refine wp_world fun w1 hw => ?_
    have H1 : Hid ((w1.heap[w.heap.size + 1]? = some (.cells #[.pointer none, .pointer (some ⟨w.heap.size, 0, none⟩)] 30)) ∧ w1.cell? ⟨w.heap.size, 0, none⟩ = some (.pointer none) ∧ Below w.heap.size w w1) := by
      rw [hw]
      refine Lib.hid ⟨kb_new (by simp) _, ?_, bl_alloc (bl_alloc (Below.refl _ _) _) _⟩
      exact (kb_cell (kb_alloc (kb_new rfl _) _) 0).trans rfl
    clear hw
    go_wp2_with fail
    go_loopw [4, 5, 6, 14, 15, 16, 17, 18, 19, 20, 21, 22, 23, 24, 25, 26, 27, 28, 29, 30, 31, 32, 33, 34, 35, 36, 37, 38, 39, 40, 41, 42, 43, 44, 45, 46, 47, 48, 49, 50, 51] (fun s4 _ _ _ _ _ _ _ _ _ _ _ _ _ _ _ _ _ _ _ _ _ _ _ _ _ _ _ _ _ _ _ _ _ _ _ _ _ _ _ _ wr => ∃ i : Nat, i ≤ 2 ∧ s4 = .int .i64 i ∧ Hid ((wr.heap[w.heap.size + 1]? = some (.cells #[.pointer none, .pointer (some ⟨w.heap.size, 0, none⟩)] 30)) ∧ wr.cell? ⟨w.heap.size, 0, none⟩ = some (.pointer none) ∧ Below w.heap.size w wr)) (fun s4 _ _ _ _ _ _ _ _ _ _ _ _ _ _ _ _ _ _ _ _ _ _ _ _ _ _ _ _ _ _ _ _ _ _ _ _ _ _ _ _ _ => 2 - (intOf s4).toNat)
    case atStart => exact ⟨0, by omega, rfl, H1⟩
    case round =>
      clear H1
      obtain ⟨i, hi, rfl, HI⟩ := hrel
      by_cases hi' : i < 2
      · obtain ⟨v, hv, hn⟩ : ∃ v, wr.cell? ⟨w.heap.size + 1, i, none⟩ = some v ∧ Nobody wr v := by
          have c := fun j => kb_cell HI.out.1 j
          obtain rfl | rfl : i = 0 ∨ i = 1 := by omega
          · exact ⟨_, (c 0).trans rfl, .inl rfl⟩
          · exact ⟨_, (c 1).trans rfl, .inr ⟨_, rfl, HI.out.2.1⟩⟩
        have HN := Lib.hid hn
        have hvo : v.oneCell' = true := by rcases hn with h | ⟨p, h, _⟩ <;> (subst h; rfl)
        clear hn
        have fi : (i : Int) < 2 := by omega
        go_wp2_with fail
        refine (SumNo_any HN.out).mono ?_
        rintro e w2 ⟨rfl, b2⟩
        have hz32 : (u8s (zeros 32)).length = 32 := by rw [u8s_len, zeros_len]
        have e2 := (b2.cell (p := ⟨w.heap.size + 1, i, none⟩) (World.block_lt_of_cell? wr _ hv)).trans hv
        have H2 := Lib.hid (And.intro ((kb_below b2 HI.out.1)) (And.intro ((b2.cell (p := ⟨w.heap.size, 0, none⟩) (World.block_lt_of_cell? wr _ HI.out.2.1)).trans HI.out.2.1) (And.intro (bl_then HI.out.2.2 b2) (HN.out.below b2))))
        clear b2 HI HN hv
        go_wp2_with (first
          | (refine wpList_stnew_h (op := ⟨none, .store 26 _ _, _, _, _, _⟩) (cs := u8s (zeros 32)) rfl _ _ rfl rfl rfl rfl hz32 (u8s_one _) ?_))
        have k2 : Below w2.heap.size w2 (w2.alloc (.cells (u8s (zeros 32)).toArray 26)) := bl_alloc (Below.refl _ _) _
        have H3 := Lib.hid (And.intro (kb_alloc H2.out.1 (.cells (u8s (zeros 32)).toArray 26)) (And.intro ((k2.cell (p := ⟨w.heap.size, 0, none⟩) (World.block_lt_of_cell? w2 _ H2.out.2.1)).trans H2.out.2.1) (And.intro (bl_then H2.out.2.2.1 k2) (H2.out.2.2.2.below k2))))
        have C3 : Hs (w2.alloc (.cells (u8s (zeros 32)).toArray 26)) w2.heap.size (zeros 32) := Cs.new rfl _
        have e3 := (k2.cell (p := ⟨w.heap.size + 1, i, none⟩) (World.block_lt_of_cell? w2 _ e2)).trans e2
        clear H2 e2 k2
        generalize w2.alloc (.cells (u8s (zeros 32)).toArray 26) = w3 at *
        generalize w2.heap.size = g at *
        refine (WriteNo_any H3.out.2.2.2 _).mono ?_
        rintro e w4 ⟨rfl, b4⟩
        have H4 := Lib.hid (And.intro ((kb_below b4 H3.out.1)) (And.intro ((b4.cell (p := ⟨w.heap.size, 0, none⟩) (World.block_lt_of_cell? w3 _ H3.out.2.1)).trans H3.out.2.1) (And.intro (bl_then H3.out.2.2.1 b4) (H3.out.2.2.2.below b4))))
        have e4 := (b4.cell (p := ⟨w.heap.size + 1, i, none⟩) (World.block_lt_of_cell? w3 _ e3)).trans e3
        have C4 := C3.below b4
        clear H3 C3 e3 b4
        go_wp2_with fail
        refine (LenNo_any H4.out.2.2.2).mono ?_
        rintro e w5 ⟨rfl, b5⟩
        have H5 := Lib.hid (And.intro ((kb_below b5 H4.out.1)) (And.intro ((b5.cell (p := ⟨w.heap.size, 0, none⟩) (World.block_lt_of_cell? w4 _ H4.out.2.1)).trans H4.out.2.1) (bl_then H4.out.2.2.1 b5)))
        have hrg := (C4.below b5).range
        clear H4 C4 e4 b5
        have hneq : ∀ W : World, (binOp .neq 26 (.agg (u8s (zeros 32)).toArray) (.agg (u8s (zeros 32)).toArray)).run Tryd.prog W = .ok (.bool false) W := fun W => by
          rw [run_neq_bytes Tryd.underlying26 (zeros 32) (zeros 32) (zeros_len 32) (zeros_len 32) W]; simp
        generalize hz : u8s (zeros 32) = z at *
        go_wp2_with (first
          | (refine wpList_load_h (op := ⟨some 44, _, _, _, _, _⟩) _ rfl rfl g 0 rfl hrg hz32 ?_)
          | (refine wpList_build_0g (op := ⟨some 45, _, _, _, _, _⟩) rfl rfl ?_; rw [hz]))
        go_roundw
        case rel => exact ⟨i + 1, by omega, by go_num, H5⟩
        case measure => simp [intOf]; omega
      · obtain rfl : i = 2 := by omega
        go_wp2_with fail
        refine (awake_yes _).mono ?_
        rintro e w2 ⟨rfl, b2⟩
        go_wp2_with fail
        go_ret
        exact ⟨rfl, bl_then HI.out.2.2 b2⟩
  · have hb' : 200 < b.length := by omega
    clear hb
    go_wp2_with fail
    refine (awake_yes _).mono ?_
    rintro e w2 ⟨rfl, b2⟩
    go_wp2_with fail
    go_ret
    exact ⟨rfl, b2⟩
end Go.Proofs.YtmfajippoielhaaDoor
