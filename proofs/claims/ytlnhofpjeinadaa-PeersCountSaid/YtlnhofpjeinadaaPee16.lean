/- The law package's merits: those of scores and of paces' bits. -/
import Derived.Test.YtlnhofpjeinadaaPee15
import Derived.Deep.RegionHeld3
import Derived.Deep.AppendLies
namespace Go.Proofs.Ytlnhofpjeinadaa
open Go.RowKit Go.Proofs.Ytlnhofpjeinadaa.Pc BigFrame
attribute [local go_sem] run_store_float
set_option linter.unusedSimpArgs false
set_option linter.unusedVariables false

/-- What came in as numbers of a kind. -/
def KRow (q : IntKind) (w : World) (A : Option Addr) (zs : List Int) : Prop := 0 < zs.length → ∃ b off, A = some ⟨b, off, none⟩ ∧ b < w.heap.size ∧ ∀ i z, zs[i]? = some z → w.cell? ⟨b, off + i, none⟩ = some (.int q z)
theorem KRow.keep {q : IntKind} {w w' : World} {A : Option Addr} {zs : List Int} {S : Nat → Prop} (h : KRow q w A zs) (hk : Keep S w w') (hS : ∀ b, b < w.heap.size → ¬ S b) : KRow q w' A zs := fun h0 => by
  obtain ⟨b, off, e, hlt, hc⟩ := h h0
  exact ⟨b, off, e, Nat.lt_of_lt_of_le hlt hk.size, fun i z hz => (World.cell?_of_block (hk.block b hlt (hS b hlt))).trans (hc i z hz)⟩
theorem KRow.below {q : IntKind} {w w' : World} {A : Option Addr} {zs : List Int} (h : KRow q w A zs) (hb : Below w.heap.size w w') : KRow q w' A zs := h.keep (S := fun _ => False) (Keep.of_below hb) (fun _ _ h => h)
def mtake (zs us : List Int) (k : Nat) : List Mr := (List.range k).map fun i => ⟨zs.getD i 0, (us.getD i 0).toNat⟩
/-- The merits of scores and bits. -/
def mlist (zs us : List Int) : List Mr := mtake zs us (min zs.length us.length)
theorem mtake_len (zs us : List Int) (k : Nat) : (mtake zs us k).length = k := by simp [mtake]
theorem mlist_len (zs us : List Int) : (mlist zs us).length = min zs.length us.length := mtake_len _ _ _
theorem mtake_next (zs us : List Int) (k : Nat) : mcs (mtake zs us (k + 1)) = mcs (mtake zs us k) ++ [.int .i64 (zs.getD k 0), .float .f64 (us.getD k 0).toNat] := by
  simp [mtake, mcs, List.range_succ, Mr.cells]
theorem infoM : (Try.prog.info? 33).map (fun i => (i.zero, i.size, i.bytes)) = some (some (.agg #[.int .i64 0, .float .f64 0]), 2, 16) := by kernel_rfl
theorem m_rel {zs us : List Int} {k : Nat} {w wr w0 w1 : World} {v v' : Value} (hown : wr.ownsRow w.heap.size 33 2 v k (mcs (mtake zs us k))) (hnx : Below w.heap.size w wr) (h0 : Below wr.heap.size wr w0)
    (hown' : w1.ownsRow w.heap.size 33 2 v' (k + 1) (mcs (mtake zs us k) ++ [.int .i64 (zs.getD k 0), .float .f64 (us.getD k 0).toNat])) (hgrow : w0.grownBy w1 v.ownBlock) :
    w1.ownsRow w.heap.size 33 2 v' (k + 1) (mcs (mtake zs us (k + 1))) ∧ Below w.heap.size w w1 := by
  have hs := hnx.size
  exact ⟨by rw [mtake_next]; exact hown', (bl_then hnx h0).grown hgrow (by have := h0.size; omega) (fun j hj => (hown.lt j hj).1)⟩
theorem two_new (w : World) (v0 v1 : Value) (t : TypeId) : ∀ j u, [v0, v1][j]? = some u → (w.alloc (.cells #[v0, v1] t)).cell? ((⟨w.heap.size, 0, none⟩ : Addr).add j) = some u := by
  intro j u hj
  have hb : (w.alloc (.cells #[v0, v1] t)).heap[w.heap.size]? = some _ := kb_new rfl _
  match j, hj with
  | 0, hj => simpa [Addr.add, kb_cell hb] using hj
  | 1, hj => simpa [Addr.add, kb_cell hb] using hj

set_option maxRecDepth 100000 in
set_option maxHeartbeats 4000000 in
theorem merits_any (A1 A2 : Option Addr) (cap1 cap2 : Nat) (zs us : List Int) (w : World) (h1 : KRow .i64 w A1 zs) (h2 : KRow .u64 w A2 us) (hl : zs.length ≤ 30) :
    Calls Try.prog 20 #[.slice A1 zs.length cap1, .slice A2 us.length cap2] w fun e w' => ∃ v, e = .returned v ∧ w'.ownsRow w.heap.size 33 2 v (mlist zs us).length (mcs (mlist zs us)) ∧ Below w.heap.size w w' := by
  obtain ⟨i0, hi, hz0, hz1, hz2⟩ := info_parts infoM
  have H1 := Lib.hid h1
  have H2 := Lib.hid h2
  obtain ⟨n, hn⟩ : ∃ n, zs.length = n := ⟨_, rfl⟩
  obtain ⟨m, hm⟩ : ∃ m, us.length = m := ⟨_, rfl⟩
  have HN := Lib.hid hn
  have HMM := Lib.hid hm
  have HML := Lib.hid (show mlist zs us = mtake zs us (min n m) by rw [← hn, ← hm]; rfl)
  have HMG := Lib.hid (show (mlist zs us).length = min n m by rw [mlist_len, hn, hm])
  rw [HMG.out]
  rw [hn] at hl ⊢
  rw [hm]
  clear h1 h2 hn hm
  go_enter Try.func20, Try.ntmps20
  go_wp2
  go_loopw [5, 6, 7, 8, 9, 10, 11, 12, 13, 14, 15, 16, 17, 18, 19, 20, 21, 22, 23, 24, 25, 26, 27, 28, 29, 30, 31] (fun s5 s6 _ _ _ _ _ _ _ _ _ _ _ _ _ _ _ _ _ _ _ _ _ _ _ _ _ wr => ∃ k : Nat, k ≤ min n m ∧ s6 = .int .i64 k ∧ Hid (wr.ownsRow w.heap.size 33 2 s5 k (mcs (mtake zs us k))) ∧ Below w.heap.size w wr) (fun _ s6 _ _ _ _ _ _ _ _ _ _ _ _ _ _ _ _ _ _ _ _ _ _ _ _ _ _ => n - (intOf s6).toNat)
  case atStart => exact ⟨0, by omega, rfl, World.ownsRow_nil _ _ _ _, Below.refl _ _⟩
  case round =>
    obtain ⟨k, hk, rfl, hown, hnx⟩ := hrel
    have ho := hown.out
    obtain ⟨A, ca, rfl⟩ := owns_slice0 ho
    by_cases hlt : k < n
    · by_cases hm : k < m
      · obtain ⟨b1, off1, rfl, hb1, hc1⟩ := H1.out (by have := HN.out; omega)
        obtain ⟨z, hz⟩ : ∃ z, zs[k]? = some z := ⟨_, List.getElem?_eq_getElem (by have := HN.out; omega)⟩
        have cz := (hnx.cell (by exact hb1)).trans (hc1 k z hz)
        have hbz : b1 < wr.heap.size := Nat.lt_of_lt_of_le hb1 hnx.size
        have hzk : zs.getD k 0 = z := by rw [List.getD, hz]; rfl
        have HZK := Lib.hid hzk
        have hsz := hnx.size
        obtain ⟨b2, off2, rfl, hb2, hc2⟩ := H2.out (by have := HMM.out; omega)
        obtain ⟨u, hu⟩ : ∃ u, us[k]? = some u := ⟨_, List.getElem?_eq_getElem (by have := HMM.out; omega)⟩
        have cu := (hnx.cell (by exact hb2)).trans (hc2 k u hu)
        have hbu : b2 < wr.heap.size := Nat.lt_of_lt_of_le hb2 hnx.size
        have huk : us.getD k 0 = u := by rw [List.getD, hu]; rfl
        have HUK := Lib.hid huk
        have hr := fun W => run_from u W
        clear hc2 hu huk H2 hc1 hz hzk H1 hown
        go_wp2_with fail
        have cz1 := (bl_drew (Below.refl wr.heap.size wr)).cell (p := ⟨b1, off1 + k, none⟩) (by exact hbz)
        have cu1 := (bl_drew (Below.refl wr.heap.size wr)).cell (p := ⟨b2, off2 + k, none⟩) (by exact hbu)
        rw [cz] at cz1
        rw [cu] at cu1
        refine wp_region_held_drew (S := (fun W : World => W.cell? ⟨b1, off1 + k, none⟩ = some (.int .i64 z) ∧ W.cell? ⟨b2, off2 + k, none⟩ = some (.int .u64 u))) (by kernel_rfl) ⟨cz1, cu1⟩ (fun hHeld => ?_)
        refine wpAnyH_take (i := 0) (oi := { dst := some 19, op := _, type := _, pos := _, after := _, guard := _ }) (v := ?_) rfl (by kernel_rfl) (by kernel_rfl) (by kernel_rfl) (fun _ _ _ h => h) (Or.inl ⟨by rfl, ?_⟩) hHeld ?_
        rotate_left
        · (intro w hSw; (try dsimp only at hSw); go_simp); all_goals with_reducible rfl
        try simp only [Act.put, List.setIfInBounds_toArray, List.set_cons_zero, List.set_cons_succ]
        refine wpAnyH_take (i := 1) (oi := { dst := some 20, op := _, type := _, pos := _, after := _, guard := _ }) (v := ?_) rfl (by kernel_rfl) (by kernel_rfl) (by kernel_rfl) (fun _ _ _ h => h) (Or.inl ⟨by rfl, ?_⟩) hHeld ?_
        rotate_left
        · (intro w hSw; (try dsimp only at hSw); go_simp); all_goals with_reducible rfl
        try simp only [Act.put, List.setIfInBounds_toArray, List.set_cons_zero, List.set_cons_succ]
        refine wpAnyH_take (i := 2) (oi := { dst := some 21, op := _, type := _, pos := _, after := _, guard := _ }) (v := ?_) rfl (by kernel_rfl) (by kernel_rfl) (by kernel_rfl) (fun _ _ _ h => h) (Or.inl ⟨by rfl, ?_⟩) hHeld ?_
        rotate_left
        · (intro w hSw; (try dsimp only at hSw); go_simp); all_goals with_reducible rfl
        try simp only [Act.put, List.setIfInBounds_toArray, List.set_cons_zero, List.set_cons_succ]
        refine wpAnyH_take (i := 3) (oi := { dst := some 22, op := _, type := _, pos := _, after := _, guard := _ }) (v := ?_) rfl (by kernel_rfl) (by kernel_rfl) (by kernel_rfl) (fun _ _ _ h => h) (Or.inl ⟨by rfl, ?_⟩) hHeld ?_
        rotate_left
        · (intro w hSw; (try dsimp only at hSw); go_simp); all_goals with_reducible rfl
        try simp only [Act.put, List.setIfInBounds_toArray, List.set_cons_zero, List.set_cons_succ]
        refine wpAnyH_take (i := 4) (oi := { dst := some 23, op := _, type := _, pos := _, after := _, guard := _ }) (v := ?_) rfl (by kernel_rfl) (by kernel_rfl) (by kernel_rfl) (fun _ _ _ h => h) (Or.inl ⟨by rfl, ?_⟩) hHeld ?_
        rotate_left
        · (intro w hSw; (try dsimp only at hSw); go_simp); all_goals with_reducible rfl
        try simp only [Act.put, List.setIfInBounds_toArray, List.set_cons_zero, List.set_cons_succ]
        refine wpAnyH_take (i := 5) (oi := { dst := some 24, op := _, type := _, pos := _, after := _, guard := _ }) (v := ?_) rfl (by kernel_rfl) (by kernel_rfl) (by kernel_rfl) (fun _ _ _ h => h) (Or.inl ⟨by rfl, ?_⟩) hHeld ?_
        rotate_left
        · (intro w hSw; (try dsimp only at hSw); go_simp); all_goals with_reducible rfl
        try simp only [Act.put, List.setIfInBounds_toArray, List.set_cons_zero, List.set_cons_succ]
        refine wpAnyH_take (i := 6) (oi := { dst := some 25, op := _, type := _, pos := _, after := _, guard := _ }) (v := ?_) rfl (by kernel_rfl) (by kernel_rfl) (by kernel_rfl) (fun _ _ _ h => h) (Or.inl ⟨by rfl, ?_⟩) hHeld ?_
        rotate_left
        · (intro w hSw; (try dsimp only at hSw); go_simp); all_goals with_reducible rfl
        try simp only [Act.put, List.setIfInBounds_toArray, List.set_cons_zero, List.set_cons_succ]
        refine wpAnyH_take (i := 7) (oi := { dst := some 26, op := _, type := _, pos := _, after := _, guard := _ }) (v := ?_) rfl (by kernel_rfl) (by kernel_rfl) (by kernel_rfl) (fun _ _ _ h => h) (Or.inl ⟨by rfl, ?_⟩) hHeld ?_
        rotate_left
        · (intro w hSw; (try dsimp only at hSw); go_simp); all_goals with_reducible rfl
        try simp only [Act.put, List.setIfInBounds_toArray, List.set_cons_zero, List.set_cons_succ]
        refine wpAnyH_take (i := 8) (oi := { dst := some 27, op := _, type := _, pos := _, after := _, guard := _ }) (v := ?_) rfl (by kernel_rfl) (by kernel_rfl) (by kernel_rfl) (fun _ _ _ h => h) (Or.inl ⟨by rfl, ?_⟩) hHeld ?_
        rotate_left
        · (intro w hSw; (try dsimp only at hSw); go_simp); all_goals with_reducible rfl
        try simp only [Act.put, List.setIfInBounds_toArray, List.set_cons_zero, List.set_cons_succ]
        refine wpAnyH_take (i := 9) (oi := { dst := some 28, op := _, type := _, pos := _, after := _, guard := _ }) (v := ?_) rfl (by kernel_rfl) (by kernel_rfl) (by kernel_rfl) (fun _ _ _ h => h) (Or.inl ⟨by rfl, ?_⟩) hHeld ?_
        rotate_left
        · (intro w hSw; (try dsimp only at hSw); go_simp); all_goals with_reducible rfl
        try simp only [Act.put, List.setIfInBounds_toArray, List.set_cons_zero, List.set_cons_succ]
        refine wpAnyH_take (i := 10) (oi := { dst := some 29, op := _, type := _, pos := _, after := _, guard := _ }) (v := ?_) rfl (by kernel_rfl) (by kernel_rfl) (by kernel_rfl) (fun _ _ _ h => h) (Or.inl ⟨by rfl, ?_⟩) hHeld ?_
        rotate_left
        · (intro w hSw; (try dsimp only at hSw); go_simp); all_goals with_reducible rfl
        try simp only [Act.put, List.setIfInBounds_toArray, List.set_cons_zero, List.set_cons_succ]
        refine wpAnyH_ready (rs := [11]) (by kernel_rfl) (by simp) (AllReadyH.cons (o := _) rfl (fun K hK => ?_) AllReadyH.nil)
        go_simp
        refine hK.out _ _ ⟨((bl_alloc (bl_drew (Below.refl wr.heap.size wr)) _).cell (by exact hbz)).trans cz, ((bl_alloc (bl_drew (Below.refl wr.heap.size wr)) _).cell (by exact hbu)).trans cu⟩ (fun hHeld => ?_)
        clear hK K
        try simp only [Act.put, List.setIfInBounds_toArray, List.set_cons_zero, List.set_cons_succ]
        refine wpAnyH_ready (rs := [12]) (by kernel_rfl) (by simp) (AllReadyH.cons (o := _) rfl (fun K hK => ?_) AllReadyH.nil)
        have hod := owns_drew ho
        refine step_append_lies _ rfl _ _ 42 rfl w.heap.size 33 i0 (.agg #[.int .i64 0, .float .f64 0]) 2 16 Try.underlying42 hi hz0 hz1 hz2 rfl (by decide) _ _ _ rfl (hod.alloc _) ⟨wr.heap.size, 0, none⟩ 1 1 [.int .i64 z, .float .f64 u.toNat] rfl rfl ?c1 ?c2 (by decide) ?c3 ?c4 ?c5 _ rfl ?_
        case c1 => exact two_new wr.drew (.int .i64 z) (.float .f64 u.toNat) 33
        case c2 => intro v hv; simp at hv; rcases hv with rfl | rfl <;> rfl
        case c3 => unfold maxLen; omega
        case c4 => omega
        case c5 => simp; omega
        · intro g' cap' w1 hown' hgrow _ _
          have hb' : Below wr.heap.size wr (wr.drew.alloc (.cells #[.int .i64 z, .float .f64 u.toNat] 33)) := bl_alloc (bl_drew (Below.refl _ wr)) _
          have cz2 : w1.cell? ⟨b1, off1 + k, none⟩ = some (.int .i64 z) := (World.cell?_of_block ((hgrow.block b1 (by have := hb'.size; exact Nat.lt_of_lt_of_le hbz this) (fun e => by have := (ho.lt b1 e.symm).1; omega)).trans (hb'.block b1 hbz))).trans cz
          have cu2 : w1.cell? ⟨b2, off2 + k, none⟩ = some (.int .u64 u) := (World.cell?_of_block ((hgrow.block b2 (by have := hb'.size; exact Nat.lt_of_lt_of_le hbu this) (fun e => by have := (ho.lt b2 e.symm).1; omega)).trans (hb'.block b2 hbu))).trans cu
          refine hK.out _ _ ⟨cz2, cu2⟩ (fun hHeld => ?_)
          clear hK K
          try simp only [Act.put, List.setIfInBounds_toArray, List.set_cons_zero, List.set_cons_succ]
          refine wpAnyH_take (i := 13) (oi := { dst := some 5, op := _, type := _, pos := _, after := _, guard := _ }) (v := ?_) rfl (by kernel_rfl) (by kernel_rfl) (by kernel_rfl) (fun _ _ _ h => h) (Or.inl ⟨by rfl, ?_⟩) hHeld ?_
          rotate_left
          · (intro w hSw; (try dsimp only at hSw); go_simp); all_goals with_reducible rfl
          try simp only [Act.put, List.setIfInBounds_toArray, List.set_cons_zero, List.set_cons_succ]
          refine wpAnyH_done (by kernel_rfl) ?_ _
          clear hHeld cz2 cu2 cz1 cu1 cz cu
          have R := m_rel (zs := zs) (us := us) ho hnx (bl_alloc (bl_drew (Below.refl _ wr)) _) (by rw [HZK.out, HUK.out]; exact hown') hgrow
          have R1 := Lib.hid R.1
          have R2 := R.2
          clear hown' hgrow hnx ho R hod
          go_wp2
          go_roundw
          case rel => exact ⟨k + 1, by omega, by go_num, R1.out, R2⟩
          case measure => simp [intOf]; omega
      · obtain rfl : k = m := by omega
        clear ho
        go_wp2
        go_ret
        exact ⟨_, rfl, by rw [HML.out, Nat.min_eq_right (by omega)]; exact hown.out, hnx⟩
    · obtain rfl : k = n := by omega
      clear ho
      go_wp2
      go_ret
      exact ⟨_, rfl, by rw [HML.out, Nat.min_eq_left (by omega)]; exact hown.out, hnx⟩
end Go.Proofs.Ytlnhofpjeinadaa
