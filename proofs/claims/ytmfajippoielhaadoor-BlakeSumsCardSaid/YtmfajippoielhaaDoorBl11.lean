/- The text of a hash: the program's and the document's. -/
import Derived.Test.YtmfajippoielhaaDoorBl10
namespace Go.Proofs.YtmfajippoielhaaDoor
open Go.RowKit Go.Proofs.YtmfajippoielhaaDoor.Bl
set_option linter.unusedSimpArgs false
set_option linter.unusedVariables false
attribute [local go_sem] cell_alloc_some frozen_alloc_some

theorem run_index_h {l : List UInt8} (hl : l.length = 32) {i : Nat} (hi : i < 32) (W : World) : (Instr.index 26 (.agg (u8s l).toArray) (.int .i64 (i : Int))).run Tryd.prog W = .ok (u8v (bAt l i)) W := by
  obtain ⟨j, hj, hz, h1, h2⟩ := info_parts infoU
  have hp : (part 5 (u8s l).toArray (i * 1)).run Tryd.prog W = .ok (u8v (bAt l i)) W := run_part_plain W (by kernel_rfl) (by
    rw [Nat.mul_one]
    have := u8s_get l i (by omega)
    unfold bAt
    rw [List.getD_eq_getElem?_getD, List.getElem?_eq_getElem (by omega)]
    simpa using this)
  have hlt : (0 : Int) ≤ (i : Int) ∧ (i : Int) < 32 := by omega
  simp [Instr.index, run_underlying Tryd.underlying26, asIntOf, sizeOf, typeInfo, hj, h1, hp, hi]
  simpa using hp
theorem wpList_index_h {ops : Array Oper} {rest : List Oper} {op : Oper} {s : Act} {w : World} {Q : Exit → Act → World → Prop} (hgd : op.guard = none) (p q : Operand) (ho : op.op = .index 26 p q) {l : List UInt8} {i : Nat} (hp : s.eval p = .agg (u8s l).toArray) (hq : s.eval q = .int .i64 (i : Int)) (hl : l.length = 32) (hi : i < 32)
    (hk : wpList Tryd.prog ops Q rest (s.put op.dst (u8v (bAt l i))) w) : wpList Tryd.prog ops Q (op :: rest) s w :=
  wpList_plain hgd fun K hK => by
    have hr := run_index_h hl hi w
    unfold Oper.wp execOp
    simp only [ho, hp, hq, Sem.run_bind, hr, Result.andThen_ok]
    exact hK _ _ hk
theorem Hs.at {w : World} {b : Nat} {l : List UInt8} (h : Hs w b l) {i : Nat} (hi : i < l.length) : w.cell? ⟨b, i, none⟩ = some (.int .u8 ((bAt l i).toNat : Int)) := by
  rw [Cs.at h, u8s_get _ _ hi]
  unfold bAt u8v
  rw [List.getD_eq_getElem?_getD, List.getElem?_eq_getElem hi]; rfl
theorem text_next (l : List UInt8) {i : Nat} (hi : i < l.length) : textB (l.take (i + 1)) = textB (l.take i) ++ [dig ((bAt l i).toNat / 16), dig ((bAt l i).toNat % 16)] := by
  unfold textB bAt
  rw [List.take_add_one, List.getElem?_eq_getElem hi, List.flatMap_append, List.getD_eq_getElem?_getD, List.getElem?_eq_getElem hi]
  simp
theorem text_len (l : List UInt8) : (textB l).length = 2 * l.length := by
  induction l with
  | nil => rfl
  | cons a r ih =>
    have : textB (a :: r) = [dig (a.toNat / 16), dig (a.toNat % 16)] ++ textB r := by simp [textB]
    rw [this, List.length_append, ih]; simp; omega
theorem step_append_b {ops : Array Oper} {o : Oper} {a : Act} {w : World} {K : Act → World → Prop} {Q : Exit → Act → World → Prop} {E : Prop} (hgd : o.guard = none) (s x : Operand)
    (ho : o.op = .call { callee := .builtin .append, args := #[s, x], argTypes := #[22, 22] }) (base : Nat) {v u : Value} {l b : List UInt8} (hs : a.eval s = v) (hx : a.eval x = u)
    (hown : w.ownsRow base 5 1 v l.length (u8s l)) (hu : BytesOf w u b) (hn : l.length + b.length ≤ 1000000) (hbase : base ≤ w.heap.size)
    (h : ∀ v' w', w'.ownsRow base 5 1 v' (l ++ b).length (u8s (l ++ b)) → Keep (fun k => base ≤ k) w w' → K (a.put o.dst v') w') :
    if Region.wanted o (yielded ops a.tmps) = true then Oper.wp Tryd.prog o a w K Q else E := by
  have hw : Region.wanted o (yielded ops a.tmps) = true := by simp [Region.wanted, hgd]
  rw [if_pos hw]
  obtain ⟨i, hi, hz, h1, h2⟩ := info_parts infoU
  obtain ⟨v', w', hr, h3, h4, _, _⟩ := run_append_row (P := Tryd.prog) w base 22 o.type 5 i (.int .u8 0) 1 Tryd.underlying22 hi hz h1 h2 rfl v l.length (u8s l) hown u b.length (u8s b) hu (u8s_one b) (by unfold maxLen; omega) (by omega) hbase
  rw [← u8s_append, ← List.length_append] at h3
  exact Lib.wp_append_run w s x _ _ ho _ _ hs hx v' w' hr (h v' w' h3 ((Keep.refl _ w).grown h4 (fun b _ e => (hown.lt b e).1)))
theorem and_15 (c : UInt8) : bits .and .u8 (c.toNat : Int) 15 = ((c.toNat % 16 : Nat) : Int) := by
  have : ∀ n : Fin 256, bits .and .u8 ((n.1 : Nat) : Int) 15 = ((n.1 % 16 : Nat) : Int) := by decide +kernel
  exact this ⟨c.toNat, c.toNat_lt⟩
theorem hex_at (n : Nat) (h : n < 16) (h2 : n < (⟨#[48, 49, 50, 51, 52, 53, 54, 55, 56, 57, 97, 98, 99, 100, 101, 102]⟩ : ByteArray).size) : (⟨#[48, 49, 50, 51, 52, 53, 54, 55, 56, 57, 97, 98, 99, 100, 101, 102]⟩ : ByteArray)[n]'h2 = dig n := by
  have : ∀ n : Fin 16, (⟨#[48, 49, 50, 51, 52, 53, 54, 55, 56, 57, 97, 98, 99, 100, 101, 102]⟩ : ByteArray)[n.1]'n.2 = dig n.1 := by decide +kernel
  exact this ⟨n, h⟩
/-- The digits of base 16. -/
def hexD : ByteArray := ⟨#[48, 49, 50, 51, 52, 53, 54, 55, 56, 57, 97, 98, 99, 100, 101, 102]⟩
set_option maxRecDepth 100000 in
set_option maxHeartbeats 4000000 in
theorem Text_any {w : World} {l : List UInt8} (hl : l.length = 32) :
    Calls Tryd.prog 19 #[.agg (u8s l).toArray] w fun e w' => e = .returned (.string (strB (textB l))) ∧ Below w.heap.size w w' := by
  go_enter Tryd.func19, Tryd.ntmps19
  go_upto_region 2 with fail
  refine wp_world fun w1 hw => ?_
  have b1 : Below w.heap.size w w1 := by rw [hw]; exact bl_alloc (Below.refl _ _) _
  have C1 : Hs w1 w.heap.size l := by rw [hw]; exact Cs.new rfl _
  clear hw
  have hrg := C1.range
  have hul : (u8s l).length = 32 := by rw [u8s_len, hl]
  have H1 := Lib.hid b1
  clear b1 C1
  go_wp2_with (first
    | (refine wpList_load_h (op := ⟨some 6, _, _, _, _, _⟩) _ rfl rfl w.heap.size 0 rfl hrg hul ?_))
  clear hrg
  go_loopw [3, 5, 7, 8, 9, 10, 11, 12, 13, 14, 15, 16, 17, 18, 19] (fun s3 _ s7 _ _ _ _ _ _ _ _ _ _ _ _ wr => ∃ (i : Nat) (A : Option Addr) (c : Nat), i ≤ 32 ∧ s7 = .int .i64 i ∧ s3 = .slice A (textB (l.take i)).length c ∧ Hid (wr.ownsRow w.heap.size 5 1 (.slice A (textB (l.take i)).length c) (textB (l.take i)).length (u8s (textB (l.take i)))) ∧ Hid (Below w.heap.size w wr)) (fun _ _ s7 _ _ _ _ _ _ _ _ _ _ _ _ _ => 32 - (intOf s7).toNat)
  case atStart => exact ⟨0, none, 0, by omega, rfl, rfl, Lib.hid (World.ownsRow_nil _ _ _ _), H1⟩
  case round =>
    clear H1
    obtain ⟨i, A, cp, hi, rfl, rfl, HO, HB⟩ := hrel
    by_cases hi' : i < 32
    · have HT := Lib.hid (text_next l (i := i) (by omega))
      have htl : Hid ((textB (l.take i)).length = 2 * i) := Lib.hid (by rw [text_len, List.length_take]; omega)
      generalize textB (l.take i) = T at *
      go_wp2_with (first
        | (refine wpList_index_h (op := ⟨some 9, _, _, _, _, _⟩) rfl _ _ rfl rfl rfl hl hi' ?_))
      generalize bAt l i = c at *
      have hc := c.toNat_lt
      have f1 : (c.toNat : Int) / 16 = ((c.toNat / 16 : Nat) : Int) := by omega
      have l1 : c.toNat / 16 < 16 := by omega
      have l2 : c.toNat % 16 < 16 := by omega
      have f2 : bits .and .u8 (c.toNat : Int) 15 = ((c.toNat % 16 : Nat) : Int) := and_15 c
      have HD := Lib.hid (show [dig (c.toNat / 16), dig (c.toNat % 16)] = [dig (c.toNat / 16), dig (c.toNat % 16)] from rfl)
      generalize hn1 : c.toNat / 16 = n1 at f1 l1 HT
      generalize hn2 : c.toNat % 16 = n2 at f2 l2 HT
      have g1 : (n1 : Int) < 16 := by omega
      have g2 : (n2 : Int) < 16 := by omega
      clear hn1 hn2 HD
      rw [show u8v c = .int .u8 (c.toNat : Int) from rfl]
      go_upto_region 5 with fail
      refine wp_region_held_drew (S := (fun W : World => True)) (by kernel_rfl) trivial (fun hHeld => ?_)
      refine wpAnyH_take (i := 0) (oi := { dst := some 10, op := _, type := _, pos := _, after := _, guard := _ }) (v := ?_) rfl (by kernel_rfl) (by kernel_rfl) (by kernel_rfl) (fun _ _ _ h => h) (Or.inl ⟨by rfl, ?_⟩) hHeld ?_
      rotate_left
      · (intro w hSw; (try dsimp only at hSw); go_simp); all_goals with_reducible rfl
      try simp only [Act.put, List.setIfInBounds_toArray, List.set_cons_zero, List.set_cons_succ]
      refine wpAnyH_take (i := 1) (oi := { dst := some 11, op := _, type := _, pos := _, after := _, guard := _ }) (v := ?_) rfl (by kernel_rfl) (by kernel_rfl) (by kernel_rfl) (fun _ _ _ h => h) (Or.inl ⟨by rfl, ?_⟩) hHeld ?_
      rotate_left
      · (intro w hSw; (try dsimp only at hSw); go_simp); all_goals with_reducible rfl
      try simp only [Act.put, List.setIfInBounds_toArray, List.set_cons_zero, List.set_cons_succ]
      refine wpAnyH_take (i := 2) (oi := { dst := some 12, op := _, type := _, pos := _, after := _, guard := _ }) (v := ?_) rfl (by kernel_rfl) (by kernel_rfl) (by kernel_rfl) (fun _ _ _ h => h) (Or.inl ⟨by rfl, ?_⟩) hHeld ?_
      rotate_left
      · (intro w hSw; (try dsimp only at hSw); go_simp); all_goals with_reducible rfl
      try simp only [Act.put, List.setIfInBounds_toArray, List.set_cons_zero, List.set_cons_succ]
      refine wpAnyH_take (i := 3) (oi := { dst := some 13, op := _, type := _, pos := _, after := _, guard := _ }) (v := ?_) rfl (by kernel_rfl) (by kernel_rfl) (by kernel_rfl) (fun _ _ _ h => h) (Or.inl ⟨by rfl, ?_⟩) hHeld ?_
      rotate_left
      · (intro w hSw; (try dsimp only at hSw); go_simp); all_goals with_reducible rfl
      try simp only [Act.put, List.setIfInBounds_toArray, List.set_cons_zero, List.set_cons_succ]
      rw [hex_at n1 l1]
      refine wpAnyH_take (i := 4) (oi := { dst := some 14, op := _, type := _, pos := _, after := _, guard := _ }) (v := ?_) rfl (by kernel_rfl) (by kernel_rfl) (by kernel_rfl) (fun _ _ _ h => h) (Or.inl ⟨by rfl, ?_⟩) hHeld ?_
      rotate_left
      · (intro w hSw; (try dsimp only at hSw); go_simp); all_goals with_reducible rfl
      try simp only [Act.put, List.setIfInBounds_toArray, List.set_cons_zero, List.set_cons_succ]
      refine wpAnyH_take (i := 5) (oi := { dst := some 15, op := _, type := _, pos := _, after := _, guard := _ }) (v := ?_) rfl (by kernel_rfl) (by kernel_rfl) (by kernel_rfl) (fun _ _ _ h => h) (Or.inl ⟨by rfl, ?_⟩) hHeld ?_
      rotate_left
      · (intro w hSw; (try dsimp only at hSw); go_simp); all_goals with_reducible rfl
      try simp only [Act.put, List.setIfInBounds_toArray, List.set_cons_zero, List.set_cons_succ]
      refine wpAnyH_take (i := 6) (oi := { dst := some 16, op := _, type := _, pos := _, after := _, guard := _ }) (v := ?_) rfl (by kernel_rfl) (by kernel_rfl) (by kernel_rfl) (fun _ _ _ h => h) (Or.inl ⟨by rfl, ?_⟩) hHeld ?_
      rotate_left
      · (intro w hSw; (try dsimp only at hSw); go_simp); all_goals with_reducible rfl
      try simp only [Act.put, List.setIfInBounds_toArray, List.set_cons_zero, List.set_cons_succ]
      rw [hex_at n2 l2]
      refine wpAnyH_ready (rs := [7]) (by kernel_rfl) (by simp) (AllReadyH.cons (o := _) rfl (fun K hK => ?_) AllReadyH.nil)
      go_simp
      refine hK.out _ _ trivial (fun hHeld => ?_)
      clear hK K
      refine wpAnyH_ready (rs := [8]) (by kernel_rfl) (by simp) (AllReadyH.cons (o := _) rfl (fun K hK => ?_) AllReadyH.nil)
      have hOl := Lib.hid ((owns_drew HO.out).alloc (.cells #[.int .u8 ((dig n1).toNat : Int), .int .u8 ((dig n2).toNat : Int)] 5))
      have hLit : BytesOf (wr.drew.alloc (.cells #[.int .u8 ((dig n1).toNat : Int), .int .u8 ((dig n2).toNat : Int)] 5)) (.slice (some ⟨wr.heap.size, 0, none⟩) 2 2) [dig n1, dig n2] := RowOf.lit (cap := 2) (cs := #[.int .u8 ((dig n1).toNat : Int), .int .u8 ((dig n2).toNat : Int)]) (kb_new rfl _) rfl
      have hLit := Lib.hid hLit
      have hbase := HB.out.size
      refine step_append_b rfl _ _ rfl w.heap.size rfl rfl hOl.out hLit.out (by rw [htl.out]; simp; omega) (by simp; omega) ?_
      intro v' w2 o2 k2
      rw [← HT.out] at o2
      obtain ⟨A2, c2, hv2⟩ := owns_slice0 o2
      subst hv2
      have HO2 := Lib.hid o2
      have HB2 := Lib.hid (((Keep.of_below (S := fun _ => False) (bl_alloc (bl_drew HB.out) (.cells #[.int .u8 ((dig n1).toNat : Int), .int .u8 ((dig n2).toNat : Int)] 5))).trans k2 (fun b hb e => by omega)).below (Nat.le_refl _) (fun b e => e.elim))
      refine hK.out _ _ trivial (fun hHeld => ?_)
      clear hK K o2 k2 hOl hLit
      refine wpAnyH_take (i := 9) (oi := { dst := some 3, op := _, type := _, pos := _, after := _, guard := _ }) (v := ?_) rfl (by kernel_rfl) (by kernel_rfl) (by kernel_rfl) (fun _ _ _ h => h) (Or.inl ⟨by rfl, ?_⟩) hHeld ?_
      rotate_left
      · (intro w hSw; (try dsimp only at hSw); go_simp); all_goals with_reducible rfl
      try simp only [Act.put, List.setIfInBounds_toArray, List.set_cons_zero, List.set_cons_succ]
      refine wpAnyH_done (by kernel_rfl) ?_ _
      clear hHeld HO HB
      go_wp2_with fail
      go_roundw
      case rel => exact ⟨i + 1, A2, c2, by omega, by go_num, rfl, HO2, HB2⟩
      case measure => simp [intOf]; omega
    · obtain rfl : i = 32 := by omega
      rw [List.take_of_length_le (by omega)] at HO ⊢
      have hcv := run_conv (RowOf.of_own HO.out)
      go_wp2_with fail
      go_ret
      exact ⟨rfl, HB.out⟩
end Go.Proofs.YtmfajippoielhaaDoor
