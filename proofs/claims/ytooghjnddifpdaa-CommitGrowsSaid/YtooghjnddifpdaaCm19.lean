/- The law package's of. -/
import Derived.Test.YtooghjnddifpdaaCm15
namespace Go.Proofs.Ytooghjnddifpdaa
open Go.RowKit Go.Proofs.Ytooghjnddifpdaa.Cm BigFrame
set_option linter.unusedSimpArgs false
set_option linter.unusedVariables false
attribute [local go_sem] cell_alloc_some frozen_alloc_some

theorem step_append_v {ops : Array Oper} {o : Oper} {a : Act} {w : World} {K : Act → World → Prop} {Q : Exit → Act → World → Prop} {E : Prop} (hg : o.guard = none) (s x : Operand)
    (ho : o.op = .call { callee := .builtin .append, args := #[s, x], argTypes := #[24, 24] })
    (base : Nat) (v : Value) (n : Nat) (xs : List Value) (hs : a.eval s = v) (hown : w.ownsRow base 29 2 v n xs)
    (u : Value) (l : List Vt) (hx : a.eval x = u) (hu : VRow w u l) (h63 : n + l.length ≤ 1000000000) (hbase : base ≤ w.heap.size)
    (h : ∀ v' w', w'.ownsRow base 29 2 v' (n + l.length) (xs ++ vcs l) → w.grownBy w' v.ownBlock → (v'.ownBlock = v.ownBlock ∨ v'.ownBlock = some w.heap.size) → K (a.put o.dst v') w') :
    if Region.wanted o (yielded ops a.tmps) = true then Oper.wp Try.prog o a w K Q else E := by
  have hw : Region.wanted o (yielded ops a.tmps) = true := by simp [Region.wanted, hg]
  rw [if_pos hw]
  exact wp_append_v w s x ho base v n xs hs hown u l hx hu h63 hbase h
def h1L : List UInt8 := 1 :: List.replicate 31 0
theorem h1L_len : h1L.length = 32 := rfl
theorem built_h (h : Int) : ∀ (x : List UInt8), x.length = 32 → Try.prog.built 26 [(0, .int .i64 h), (1, .agg (u8s x).toArray)] = some (ccs ⟨h, x, []⟩ vZ).toArray
  | [x0, x1, x2, x3, x4, x5, x6, x7, x8, x9, x10, x11, x12, x13, x14, x15, x16, x17, x18, x19, x20, x21, x22, x23, x24, x25, x26, x27, x28, x29, x30, x31], _ => by kernel_rfl
theorem built_1 : Try.prog.built 23 [(0, .int .u8 1)] = some (u8s h1L).toArray := by kernel_rfl
theorem wpList_build_h {ops : Array Oper} {rest : List Oper} {op : Oper} {s : Act} {w : World} {Q : Exit → Act → World → Prop} (hgd : op.guard = none) (p q : Operand) (ho : op.op = .build 26 #[(0, p), (1, q)]) {h : Int} {x : List UInt8} (hp : s.eval p = .int .i64 h) (hq : s.eval q = .agg (u8s x).toArray) (hx : x.length = 32)
    (hk : wpList Try.prog ops Q rest (s.put op.dst (.agg (ccs ⟨h, x, []⟩ vZ).toArray)) w) : wpList Try.prog ops Q (op :: rest) s w :=
  wpList_plain hgd fun K hK => by
    have hr := run_build (P := Try.prog) w 26 #[(0, .int .i64 h), (1, .agg (u8s x).toArray)] _ (built_h h x hx)
    unfold Oper.wp execOp
    simp only [ho, List.map_toArray, List.map_cons, List.map_nil, hp, hq, Sem.run_bind, hr, Result.andThen_ok]
    exact hK _ _ hk
theorem wpList_build_1 {ops : Array Oper} {rest : List Oper} {op : Oper} {s : Act} {w : World} {Q : Exit → Act → World → Prop} (hgd : op.guard = none) (p : Operand) (ho : op.op = .build 23 #[(0, p)]) (hp : s.eval p = .int .u8 1)
    (hk : wpList Try.prog ops Q rest (s.put op.dst (.agg (u8s h1L).toArray)) w) : wpList Try.prog ops Q (op :: rest) s w :=
  wpList_plain hgd fun K hK => by
    have hr := run_build (P := Try.prog) w 23 #[(0, .int .u8 1)] _ built_1
    unfold Oper.wp execOp
    simp only [ho, List.map_toArray, List.map_cons, List.map_nil, hp, Sem.run_bind, hr, Result.andThen_ok]
    exact hK _ _ hk
/-- A commit of the law package. -/
def ofC (h : Int) (l : List Vt) : C := ⟨h, h1L, l⟩
theorem ofC_x (h : Int) (l : List Vt) : (ofC h l).x.length = 32 := rfl
/-- Places and signatures in turns, as numbers. -/
def Turns (w : World) (A : Option Addr) (l : List Vt) : Prop := 0 < l.length → ∃ b, A = some ⟨b, 0, none⟩ ∧ b < w.heap.size ∧ ∀ k, k < l.length → w.cell? ⟨b, k * 2, none⟩ = some (.int .i64 (vAt l k).p) ∧ w.cell? ⟨b, k * 2 + 1, none⟩ = some (.int .i64 ((vAt l k).g : Int)) ∧ (vAt l k).g < 4611686018427387904
theorem owns_of {w : World} {B k : Nat} {v : Value} {l : List Vt} (hk : k < l.length) (h : w.ownsRow B 29 2 v (k + [vAt l k].length) (vcs (l.take k) ++ vcs [vAt l k])) : w.ownsRow B 29 2 v (k + 1) (vcs (l.take (k + 1))) := by
  rw [List.take_add_one, vAt_some hk, vcs_append]
  exact h
theorem take_at {l : List Vt} {k : Nat} (h : k < l.length) : l.take (k + 1) = l.take k ++ [vAt l k] := by
  rw [List.take_add_one, vAt_some h]; rfl

set_option maxRecDepth 100000 in
set_option maxHeartbeats 4000000 in
theorem of_any {w : World} (h : Int) {A : Option Addr} {cap : Nat} {l : List Vt} (hT : Turns w A l) (hl : l.length ≤ 1000) {n : Nat} (hn : n = l.length * 2) :
    Calls Try.prog 19 #[.int .i64 h, .slice A n cap] w fun e w' => ∃ v', e = .returned (.agg (ccs (ofC h l) v').toArray) ∧ NewVotes w w' v' l := by
  subst hn
  have HT := Lib.hid hT
  clear hT
  go_enter Try.func19, Try.ntmps19
  go_wp2_with (first
    | (refine wpList_build_1 (op := ⟨some 8, _, _, _, _, _⟩) rfl _ rfl rfl ?_)
    | (refine wpList_build_h (op := ⟨some 9, _, _, _, _, _⟩) rfl _ _ rfl rfl rfl h1L_len ?_)
    | (refine wpList_store_c (op := ⟨none, _, _, _, _, _⟩) (c := ofC h []) (v := vZ) rfl _ _ rfl (w.heap.size + 1) rfl rfl (kb_new (by simp) _) (by kernel_rfl) h1L_len rfl ?_))
  intro wb g0 k0
  have C0 : wb.heap[w.heap.size]? = some (.cells (ccs cZ vZ).toArray 26 (0, 0)) := k0.kb (kb_alloc (kb_new rfl _) _) (by omega)
  have C1 : wb.heap[w.heap.size + 1]? = some (.cells (ccs (ofC h []) vZ).toArray 26 (0, 0)) := g0
  have bb : Below w.heap.size w wb := ((Keep.of_below (S := fun _ => False) (bl_alloc (bl_alloc (Below.refl _ _) _) _)).trans k0 (fun b h e => by omega)).below (Nat.le_refl _) (fun b e => e.elim)
  have HB := Lib.hid (And.intro C0 (And.intro C1 bb))
  have hsz : w.heap.size + 1 < wb.heap.size := kb_lt C1
  clear g0 k0 C0 C1 bb
  go_wp2_with fail
  have q33 := fun u => ccs_33 (ofC_x h []) u
  go_loopw [6, 10, 11, 12, 13, 14, 15, 16, 17, 18, 19, 20, 21, 22, 23, 24, 25, 26, 27, 28, 29, 30, 31, 32] (fun s6 _ _ _ _ _ _ _ _ _ _ _ _ _ _ _ _ _ _ _ _ _ _ _ wr => ∃ (k : Nat) (s : Value), k ≤ l.length ∧ s6 = .int .i64 (k * 2 : Nat) ∧ Hid (wr.heap[w.heap.size]? = some (.cells (ccs cZ vZ).toArray 26 (0, 0)) ∧ wr.heap[w.heap.size + 1]? = some (.cells (ccs (ofC h []) s).toArray 26 (0, 0)) ∧ wr.ownsRow wb.heap.size 29 2 s k (vcs (l.take k)) ∧ Below w.heap.size w wr ∧ wb.heap.size ≤ wr.heap.size)) (fun s6 _ _ _ _ _ _ _ _ _ _ _ _ _ _ _ _ _ _ _ _ _ _ _ _ => (l.length * 2) - (intOf s6).toNat)
  case atStart => exact ⟨0, vZ, by omega, rfl, Lib.hid ⟨HB.out.1, HB.out.2.1, World.ownsRow_nil _ _ _ _, HB.out.2.2, Nat.le_refl _⟩⟩
  case round =>
    obtain ⟨k, s, hk, rfl, hS⟩ := hrel
    have HS := hS
    obtain ⟨A5, c5, rfl⟩ := owns_slice0 hS.out.2.2.1
    have e33 := (kb_cell HS.out.2.1 33).trans (by simpa using q33 (.slice A5 k c5))
    clear hS
    by_cases hlt : k < l.length
    · obtain ⟨b, rfl, hbw, hc⟩ := HT.out (by omega)
      obtain ⟨h0, h1, h2⟩ := hc k hlt
      have d0 := (HS.out.2.2.2.1.cell (p := ⟨b, k * 2, none⟩) hbw).trans h0
      have d1 := (HS.out.2.2.2.1.cell (p := ⟨b, k * 2 + 1, none⟩) hbw).trans h1
      have HD := Lib.hid (And.intro h0 h1)
      have hLT := Lib.hid hlt
      have hki : (k : Int) * 2 + 1 < (l.length : Int) * 2 := by omega
      have hw1 : ((k : Int) * 2 + 1).toNat = k * 2 + 1 := by omega
      have hkj : (k : Int) * 2 < (l.length : Int) * 2 := by omega
      have hp0 : (0 : Int) ≤ (k : Int) * 2 := by omega
      have hp1 : (0 : Int) ≤ (k : Int) * 2 + 1 := by omega
      have ht0 : ((k : Int) * 2).toNat = k * 2 := by omega
      clear hc h0 h1
      go_wp2_with fail
      have hwr : IntKind.i64.wrap ((k : Int) * 2 + 1) = (k : Int) * 2 + 1 := by rw [IntKind.wrap_i64]; omega
      have hconv : IntKind.u64.wrap ((vAt l k).g : Int) = ((vAt l k).g : Int) := by rw [IntKind.wrap_u64]; omega
      refine wp_region_held_drew (S := (fun W : World => W.cell? ⟨b, k * 2, none⟩ = some (.int .i64 (vAt l k).p) ∧ W.cell? ⟨b, k * 2 + 1, none⟩ = some (.int .i64 ((vAt l k).g : Int)))) (by kernel_rfl) ⟨d0, d1⟩ (fun hHeld => ?_)
      refine wpAnyH_take (i := 0) (oi := { dst := some 17, op := _, type := _, pos := _, after := _, guard := _ }) (v := ?_) rfl (by kernel_rfl) (by kernel_rfl) (by kernel_rfl) (fun _ _ _ h => h) (Or.inl ⟨by rfl, ?_⟩) hHeld ?_
      rotate_left
      · (intro w hSw; (try dsimp only at hSw); go_simp); all_goals with_reducible rfl
      try simp only [Act.put, List.setIfInBounds_toArray, List.set_cons_zero, List.set_cons_succ]
      refine wpAnyH_take (i := 2) (oi := { dst := some 19, op := _, type := _, pos := _, after := _, guard := _ }) (v := ?_) rfl (by kernel_rfl) (by kernel_rfl) (by kernel_rfl) (fun _ _ _ h => h) (Or.inl ⟨by rfl, ?_⟩) hHeld ?_
      rotate_left
      · (intro w hSw; (try dsimp only at hSw); go_simp); all_goals with_reducible rfl
      try simp only [Act.put, List.setIfInBounds_toArray, List.set_cons_zero, List.set_cons_succ]
      refine wpAnyH_take (i := 3) (oi := { dst := some 20, op := _, type := _, pos := _, after := _, guard := _ }) (v := ?_) rfl (by kernel_rfl) (by kernel_rfl) (by kernel_rfl) (fun _ _ _ h => h) (Or.inl ⟨by rfl, ?_⟩) hHeld ?_
      rotate_left
      · (intro w hSw; (try dsimp only at hSw); go_simp); all_goals with_reducible rfl
      try simp only [Act.put, List.setIfInBounds_toArray, List.set_cons_zero, List.set_cons_succ]
      refine wpAnyH_take (i := 4) (oi := { dst := some 21, op := _, type := _, pos := _, after := _, guard := _ }) (v := ?_) rfl (by kernel_rfl) (by kernel_rfl) (by kernel_rfl) (fun _ _ _ h => h) (Or.inl ⟨by rfl, ?_⟩) hHeld ?_
      rotate_left
      · (intro w hSw; (try dsimp only at hSw); go_simp); all_goals with_reducible rfl
      try simp only [Act.put, List.setIfInBounds_toArray, List.set_cons_zero, List.set_cons_succ]
      refine wpAnyH_take (i := 5) (oi := { dst := some 22, op := _, type := _, pos := _, after := _, guard := _ }) (v := ?_) rfl (by kernel_rfl) (by kernel_rfl) (by kernel_rfl) (fun _ _ _ h => h) (Or.inl ⟨by rfl, ?_⟩) hHeld ?_
      rotate_left
      · (intro w hSw; (try dsimp only at hSw); go_simp); all_goals with_reducible rfl
      try simp only [Act.put, List.setIfInBounds_toArray, List.set_cons_zero, List.set_cons_succ]
      refine wpAnyH_take (i := 6) (oi := { dst := some 23, op := _, type := _, pos := _, after := _, guard := _ }) (v := ?_) rfl (by kernel_rfl) (by kernel_rfl) (by kernel_rfl) (fun _ _ _ h => h) (Or.inl ⟨by rfl, ?_⟩) hHeld ?_
      rotate_left
      · (intro w hSw; (try dsimp only at hSw); go_simp); all_goals with_reducible rfl
      try simp only [Act.put, List.setIfInBounds_toArray, List.set_cons_zero, List.set_cons_succ]
      refine wpAnyH_take (i := 7) (oi := { dst := some 24, op := _, type := _, pos := _, after := _, guard := _ }) (v := ?_) rfl (by kernel_rfl) (by kernel_rfl) (by kernel_rfl) (fun _ _ _ h => h) (Or.inl ⟨by rfl, ?_⟩) hHeld ?_
      rotate_left
      · (intro w hSw; (try dsimp only at hSw); go_simp); all_goals with_reducible rfl
      try simp only [Act.put, List.setIfInBounds_toArray, List.set_cons_zero, List.set_cons_succ]
      refine wpAnyH_take (i := 8) (oi := { dst := some 25, op := _, type := _, pos := _, after := _, guard := _ }) (v := ?_) rfl (by kernel_rfl) (by kernel_rfl) (by kernel_rfl) (fun _ _ _ h => h) (Or.inl ⟨by rfl, ?_⟩) hHeld ?_
      rotate_left
      · (intro w hSw; (try dsimp only at hSw); go_simp); all_goals with_reducible rfl
      try simp only [Act.put, List.setIfInBounds_toArray, List.set_cons_zero, List.set_cons_succ]
      refine wpAnyH_take (i := 9) (oi := { dst := some 26, op := _, type := _, pos := _, after := _, guard := _ }) (v := ?_) rfl (by kernel_rfl) (by kernel_rfl) (by kernel_rfl) (fun _ _ _ h => h) (Or.inl ⟨by rfl, ?_⟩) hHeld ?_
      rotate_left
      · (intro w hSw; (try dsimp only at hSw); go_simp); all_goals with_reducible rfl
      try simp only [Act.put, List.setIfInBounds_toArray, List.set_cons_zero, List.set_cons_succ]
      refine wpAnyH_take (i := 10) (oi := { dst := some 27, op := _, type := _, pos := _, after := _, guard := _ }) (v := ?_) rfl (by kernel_rfl) (by kernel_rfl) (by kernel_rfl) (fun _ _ _ h => h) (Or.inl ⟨by rfl, ?_⟩) hHeld ?_
      rotate_left
      · (intro w hSw; (try dsimp only at hSw); go_simp); all_goals with_reducible rfl
      try simp only [Act.put, List.setIfInBounds_toArray, List.set_cons_zero, List.set_cons_succ]
      refine wpAnyH_take (i := 11) (oi := { dst := some 28, op := _, type := _, pos := _, after := _, guard := _ }) (v := ?_) rfl (by kernel_rfl) (by kernel_rfl) (by kernel_rfl) (fun _ _ _ h => h) (Or.inl ⟨by rfl, ?_⟩) hHeld ?_
      rotate_left
      · (intro w hSw; (try dsimp only at hSw); go_simp); all_goals with_reducible rfl
      try simp only [Act.put, List.setIfInBounds_toArray, List.set_cons_zero, List.set_cons_succ]
      refine wpAnyH_take (i := 12) (oi := { dst := some 29, op := _, type := _, pos := _, after := _, guard := _ }) (v := ?_) rfl (by kernel_rfl) (by kernel_rfl) (by kernel_rfl) (fun _ _ _ h => h) (Or.inl ⟨by rfl, ?_⟩) hHeld ?_
      rotate_left
      · (intro w hSw; (try dsimp only at hSw); go_simp); all_goals with_reducible rfl
      try simp only [Act.put, List.setIfInBounds_toArray, List.set_cons_zero, List.set_cons_succ]
      have hRw := Lib.hid (lit_row wr.drew (vAt l k))
      have hoA := Lib.hid ((owns_drew HS.out.2.2.1).alloc (.cells #[.int .i64 (vAt l k).p, .int .u64 (vAt l k).g] 29))
      have d0a := (cell_alloc_some wr.drew b (k * 2) (.cells #[.int .i64 (vAt l k).p, .int .u64 (vAt l k).g] 29) (by show (wr.cell? _).isSome = true; rw [d0]; rfl)).trans d0
      have d1a := (cell_alloc_some wr.drew b (k * 2 + 1) (.cells #[.int .i64 (vAt l k).p, .int .u64 (vAt l k).g] 29) (by show (wr.cell? _).isSome = true; rw [d1]; rfl)).trans d1
      refine wpAnyH_ready (rs := [1, 13]) (by kernel_rfl) (by simp) (AllReadyH.cons (o := _) rfl (fun K hK => ?_) (AllReadyH.cons (o := _) rfl (fun K hK => ?_) AllReadyH.nil))
      · go_simp
        refine hK.out _ _ ⟨d0, d1⟩ (fun hHeld => ?_)
        clear hK K
        refine wpAnyH_ready (rs := [13]) (by kernel_rfl) (by simp) (AllReadyH.cons (o := _) rfl (fun K hK => ?_) AllReadyH.nil)
        go_simp
        refine hK.out _ _ ⟨d0a, d1a⟩ (fun hHeld => ?_)
        clear hK K e33
        refine wpAnyH_ready (rs := [14]) (by kernel_rfl) (by simp) (AllReadyH.cons (o := _) rfl (fun K hK => ?_) AllReadyH.nil)
        refine step_append_v rfl _ _ rfl wb.heap.size _ _ _ rfl hoA.out _ [vAt l k] rfl hRw.out ?c3 ?c4 ?_
        case c3 => simp; omega
        case c4 => have := HS.out.2.2.2.2; simp; omega
        intro v' w1 hown' hgrow _
        have R := owns_of hLT.out hown'
        obtain ⟨A6, c6, rfl⟩ := owns_slice0 R
        have kG : Keep (fun b => wb.heap.size ≤ b) wr w1 := ((Keep.refl _ wr).drew.alloc (.cells #[.int .i64 (vAt l k).p, .int .u64 (vAt l k).g] 29)).grown hgrow (fun b _ e => (HS.out.2.2.1.lt b e).1)
        have E0 := kG.kb HS.out.1 (by omega)
        have E1 := kG.kb HS.out.2.1 (by omega)
        have bw : Below w.heap.size w w1 := ((Keep.of_below (S := fun _ => False) HS.out.2.2.2.1).trans kG (fun b h e => by omega)).below (Nat.le_refl _) (fun b e => e.elim)
        have e33 := (kb_cell E1 33).trans (by simpa using q33 (.slice A5 k c5))
        have z33 := kb_frozen E1 33
        have F1 := kb_set (i := 33) E1 (.slice A6 (k + 1) c6)
        rw [ccs_set (ofC_x h [])] at F1
        have F0 := kb_far E0 (p := ⟨w.heap.size + 1, 33, none⟩) (by simp) (.slice A6 (k + 1) c6)
        have FR := own_set (p := w.heap.size + 1) (i := 33) (u := .slice A6 (k + 1) c6) R (fun e => by have := (R.lt _ e).1; omega)
        have FB := bl_set (p := ⟨w.heap.size + 1, 33, none⟩) (by simp) bw (.slice A6 (k + 1) c6)
        have hsz1 : wb.heap.size ≤ (w1.setCell ⟨w.heap.size + 1, 33, none⟩ (.slice A6 (k + 1) c6)).heap.size := by have := kG.size; have := HS.out.2.2.2.2; simp; omega
        have HP := Lib.hid (And.intro F0 (And.intro F1 (And.intro FR (And.intro FB hsz1))))
        refine hK.out _ _ ⟨(bw.cell (p := ⟨b, k * 2, none⟩) hbw).trans HD.out.1, (bw.cell (p := ⟨b, k * 2 + 1, none⟩) hbw).trans HD.out.2⟩ (fun hHeld => ?_)
        clear hK K hown' hgrow R kG E0 E1 bw F0 F1 FR FB hsz1
        refine wpAnyH_take (i := 15) (oi := { dst := some 32, op := _, type := _, pos := _, after := _, guard := _ }) (v := ?_) rfl (by kernel_rfl) (by kernel_rfl) (by kernel_rfl) (fun _ _ _ h => h) (Or.inl ⟨by rfl, ?_⟩) hHeld ?_
        rotate_left
        · (intro w hSw; (try dsimp only at hSw); go_simp); all_goals with_reducible rfl
        try simp only [Act.put, List.setIfInBounds_toArray, List.set_cons_zero, List.set_cons_succ]
        refine wpAnyH_ready (rs := [16]) (by kernel_rfl) (by simp) (AllReadyH.cons (o := _) rfl (fun K hK => ?_) AllReadyH.nil)
        go_simp
        refine hK.out _ _ ⟨(HP.out.2.2.2.1.cell (p := ⟨b, k * 2, none⟩) hbw).trans HD.out.1, (HP.out.2.2.2.1.cell (p := ⟨b, k * 2 + 1, none⟩) hbw).trans HD.out.2⟩ (fun hHeld => ?_)
        clear hK K
        refine wpAnyH_done (by kernel_rfl) ?_ _
        clear hHeld e33 z33
        go_wp2_with fail
        go_roundw
        case rel => exact ⟨k + 1, _, by omega, by simp; omega, Lib.hid HP.out⟩
        case measure => simp [intOf]; omega
      · go_simp
        refine hK.out _ _ ⟨d0a, d1a⟩ (fun hHeld => ?_)
        clear hK K
        refine wpAnyH_ready (rs := [1]) (by kernel_rfl) (by simp) (AllReadyH.cons (o := _) rfl (fun K hK => ?_) AllReadyH.nil)
        go_simp
        refine hK.out _ _ ⟨d0a, d1a⟩ (fun hHeld => ?_)
        clear hK K e33
        refine wpAnyH_ready (rs := [14]) (by kernel_rfl) (by simp) (AllReadyH.cons (o := _) rfl (fun K hK => ?_) AllReadyH.nil)
        refine step_append_v rfl _ _ rfl wb.heap.size _ _ _ rfl hoA.out _ [vAt l k] rfl hRw.out ?c3 ?c4 ?_
        case c3 => simp; omega
        case c4 => have := HS.out.2.2.2.2; simp; omega
        intro v' w1 hown' hgrow _
        have R := owns_of hLT.out hown'
        obtain ⟨A6, c6, rfl⟩ := owns_slice0 R
        have kG : Keep (fun b => wb.heap.size ≤ b) wr w1 := ((Keep.refl _ wr).drew.alloc (.cells #[.int .i64 (vAt l k).p, .int .u64 (vAt l k).g] 29)).grown hgrow (fun b _ e => (HS.out.2.2.1.lt b e).1)
        have E0 := kG.kb HS.out.1 (by omega)
        have E1 := kG.kb HS.out.2.1 (by omega)
        have bw : Below w.heap.size w w1 := ((Keep.of_below (S := fun _ => False) HS.out.2.2.2.1).trans kG (fun b h e => by omega)).below (Nat.le_refl _) (fun b e => e.elim)
        have e33 := (kb_cell E1 33).trans (by simpa using q33 (.slice A5 k c5))
        have z33 := kb_frozen E1 33
        have F1 := kb_set (i := 33) E1 (.slice A6 (k + 1) c6)
        rw [ccs_set (ofC_x h [])] at F1
        have F0 := kb_far E0 (p := ⟨w.heap.size + 1, 33, none⟩) (by simp) (.slice A6 (k + 1) c6)
        have FR := own_set (p := w.heap.size + 1) (i := 33) (u := .slice A6 (k + 1) c6) R (fun e => by have := (R.lt _ e).1; omega)
        have FB := bl_set (p := ⟨w.heap.size + 1, 33, none⟩) (by simp) bw (.slice A6 (k + 1) c6)
        have hsz1 : wb.heap.size ≤ (w1.setCell ⟨w.heap.size + 1, 33, none⟩ (.slice A6 (k + 1) c6)).heap.size := by have := kG.size; have := HS.out.2.2.2.2; simp; omega
        have HP := Lib.hid (And.intro F0 (And.intro F1 (And.intro FR (And.intro FB hsz1))))
        refine hK.out _ _ ⟨(bw.cell (p := ⟨b, k * 2, none⟩) hbw).trans HD.out.1, (bw.cell (p := ⟨b, k * 2 + 1, none⟩) hbw).trans HD.out.2⟩ (fun hHeld => ?_)
        clear hK K hown' hgrow R kG E0 E1 bw F0 F1 FR FB hsz1
        refine wpAnyH_take (i := 15) (oi := { dst := some 32, op := _, type := _, pos := _, after := _, guard := _ }) (v := ?_) rfl (by kernel_rfl) (by kernel_rfl) (by kernel_rfl) (fun _ _ _ h => h) (Or.inl ⟨by rfl, ?_⟩) hHeld ?_
        rotate_left
        · (intro w hSw; (try dsimp only at hSw); go_simp); all_goals with_reducible rfl
        try simp only [Act.put, List.setIfInBounds_toArray, List.set_cons_zero, List.set_cons_succ]
        refine wpAnyH_ready (rs := [16]) (by kernel_rfl) (by simp) (AllReadyH.cons (o := _) rfl (fun K hK => ?_) AllReadyH.nil)
        go_simp
        refine hK.out _ _ ⟨(HP.out.2.2.2.1.cell (p := ⟨b, k * 2, none⟩) hbw).trans HD.out.1, (HP.out.2.2.2.1.cell (p := ⟨b, k * 2 + 1, none⟩) hbw).trans HD.out.2⟩ (fun hHeld => ?_)
        clear hK K
        refine wpAnyH_done (by kernel_rfl) ?_ _
        clear hHeld e33 z33
        go_wp2_with fail
        go_roundw
        case rel => exact ⟨k + 1, _, by omega, by simp; omega, Lib.hid HP.out⟩
        case measure => simp [intOf]; omega
    · obtain rfl : k = l.length := by omega
      have hlt2 : ¬ ((l.length : Int) * 2 + 1 < (l.length : Int) * 2) := by omega
      have C2 := HS.out.1
      go_wp2_with (first
        | (with_reducible refine wpList_load_cw _ rfl (by kernel_rfl) _ rfl HS.out.2.1 (ofC_x h []) ?_)
        | (refine wpList_store_c (op := ⟨none, _, _, _, _, _⟩) rfl _ _ rfl _ rfl rfl HS.out.1 zArr (ofC_x h []) rfl ?_))
      intro w9 g2 k2
      have HG := Lib.hid (And.intro g2 k2)
      clear g2 k2
      go_wp2_with fail
      refine bodyPost_ret (results_c1 rfl _ _ w.heap.size (ofC_x h []) rfl HG.out.1) rfl ?_
      have ho := HS.out.2.2.1
      rw [List.take_of_length_le (Nat.le_refl _)] at ho
      refine ⟨_, rfl, owns_mono (HG.out.2.row ho (fun b h e => by have := (ho.lt b h).1; omega)) (by omega), ?_⟩
      exact ((Keep.of_below (S := fun _ => False) HS.out.2.2.2.1).trans HG.out.2 (fun b h e => by omega)).below (Nat.le_refl _) (fun b e => e.elim)
end Go.Proofs.Ytooghjnddifpdaa
