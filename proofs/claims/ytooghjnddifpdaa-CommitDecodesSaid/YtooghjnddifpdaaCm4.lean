/- commit.Of and the document's. -/
import Derived.Test.YtooghjnddifpdaaCm3
namespace Go.Proofs.Ytooghjnddifpdaa
open Go.RowKit Go.Proofs.Ytooghjnddifpdaa.Cm BigFrame
set_option linter.unusedSimpArgs false
set_option linter.unusedVariables false

theorem vAt_cons_0 (v : Vt) (l : List Vt) : vAt (v :: l) 0 = v := rfl
theorem vAt_cons_s (v : Vt) (l : List Vt) (i : Nat) : vAt (v :: l) (i + 1) = vAt l i := rfl
theorem find_first : ∀ {l : List Vt} {p : Int} {i : Nat}, i < l.length → (vAt l i).p = p → (∀ j, j < i → (vAt l j).p ≠ p) → findV l p = some (vAt l i).g
  | [], _, _, h, _, _ => by simp at h
  | v :: l, p, 0, _, h, _ => by
    rw [vAt_cons_0] at h ⊢
    unfold findV; rw [if_pos h]
  | v :: l, p, i + 1, h, h1, h2 => by
    rw [vAt_cons_s] at h1 ⊢
    unfold findV
    have h20 := h2 0 (by omega)
    rw [vAt_cons_0] at h20
    rw [if_neg h20]
    exact find_first (by simpa using h) h1 (fun j hj => h2 (j + 1) (by omega))
theorem find_no : ∀ {l : List Vt} {p : Int}, (∀ j, j < l.length → (vAt l j).p ≠ p) → findV l p = none
  | [], _, _ => rfl
  | v :: l, p, h => by
    unfold findV
    have h20 := h 0 (by simp)
    rw [vAt_cons_0] at h20
    rw [if_neg h20]
    exact find_no fun j hj => h (j + 1) (by simp; omega)
/-- The first place of a vote. -/
def IdxIs (l : List Vt) (p r : Int) : Prop := (r = -1 ∧ ∀ j, j < l.length → (vAt l j).p ≠ p) ∨ ∃ i : Nat, r = (i : Int) ∧ i < l.length ∧ (vAt l i).p = p ∧ ∀ j, j < i → (vAt l j).p ≠ p
def IdxOut (l : List Vt) (p : Int) (w : World) (e : Ending) (w' : World) : Prop := ∃ r : Int, e = .returned (.int .i64 r) ∧ IdxIs l p r ∧ Below w.heap.size w w'
/-- A place's signature. -/
def sigR (l : List Vt) (p : Int) : Nat × Bool := match findV l p with
  | none => (0, false)
  | some g => (g, true)
def SigOut (l : List Vt) (p : Int) (w : World) (e : Ending) (w' : World) : Prop := e = .returned (.tuple #[.int .u64 ((sigR l p).1 : Int), .bool (sigR l p).2]) ∧ Below w.heap.size w w'
theorem SigOut.yes {l : List Vt} {p : Int} {i : Nat} {w w' : World} {e : Ending} (h1 : i < l.length) (h2 : (vAt l i).p = p) (h3 : ∀ j, j < i → (vAt l j).p ≠ p) (he : e = .returned (.tuple #[.int .u64 ((vAt l i).g : Int), .bool true])) (hb : Below w.heap.size w w') : SigOut l p w e w' := by
  have := find_first h1 h2 h3
  refine ⟨?_, hb⟩
  rw [he]; simp only [sigR, this]
theorem SigOut.no {l : List Vt} {p : Int} {w w' : World} {e : Ending} (h : ∀ j, j < l.length → (vAt l j).p ≠ p) (he : e = .returned (.tuple #[.int .u64 0, .bool false])) (hb : Below w.heap.size w w') : SigOut l p w e w' := by
  have := find_no h
  refine ⟨?_, hb⟩
  rw [he]; simp only [sigR, this]; rfl

theorem Of1_any {w : World} {q : Nat} {p : Int} (v : Vt) (hq : w.cell? ⟨q, 0, none⟩ = some (.int .i64 p)) :
    Calls Try.prog 51 (#[.agg #[.int .i64 v.p, .int .u64 v.g]] ++ #[.pointer (some ⟨q, 0, none⟩)]) w fun e w' => e = .returned (.bool (decide (v.p = p))) ∧ Below w.heap.size w w' := by
  have hq' : (w.alloc (.cells #[.int .i64 v.p, .int .u64 v.g] 29)).cell? ⟨q, 0, none⟩ = some (.int .i64 p) := (cell_alloc_some _ _ _ _ (by rw [hq]; rfl)).trans hq
  have e1 : (v.p == p) = decide (v.p = p) := by rw [Bool.eq_iff_iff]; simp
  have HE := Lib.hid e1
  clear hq e1
  go_enter Try.func51, Try.ntmps51
  go_wp2_with fail
  go_ret
  exact ⟨ret_bool HE.out, bl_alloc (Below.refl _ _) _⟩

set_option maxRecDepth 100000 in
set_option maxHeartbeats 2000000 in
theorem IndexFunc_any {w : World} {q : Nat} {p : Int} {v : Value} {l : List Vt} (hv : VRow w v l) (hq : w.cell? ⟨q, 0, none⟩ = some (.int .i64 p)) (hl : l.length ≤ 1000000) :
    Calls Try.prog 50 #[v, .func (.func 51) #[] #[.pointer (some ⟨q, 0, none⟩)]] w (IdxOut l p w) := by
  have HV0 := Lib.hid hv
  have HQ := Lib.hid hq
  have hqs : q < w.heap.size := World.block_lt_of_cell? w ⟨q, 0, none⟩ hq
  obtain ⟨A, cap, rfl⟩ := hv.form
  clear hv hq
  obtain ⟨n, hn⟩ : ∃ n, l.length = n := ⟨_, rfl⟩
  have HN := Lib.hid hn
  rw [hn] at hl HV0 ⊢
  clear hn
  go_enter Try.func50, Try.ntmps50
  go_wp2_with fail
  go_loopw [5, 8, 9, 10, 11, 12, 13, 14, 15, 16, 17, 18] (fun _ s8 _ _ _ _ _ _ _ _ _ _ wr => ∃ (k : Nat), k ≤ n ∧ s8 = .int .i64 k ∧ Hid (∀ j, j < k → (vAt l j).p ≠ p) ∧ Below w.heap.size w wr) (fun _ s8 _ _ _ _ _ _ _ _ _ _ _ => n - (intOf s8).toNat)
  case atStart => exact ⟨0, by omega, rfl, fun j hj => by omega, Below.refl _ _⟩
  case round =>
    obtain ⟨k, hk, rfl, hF, hbel⟩ := hrel
    have HBe := Lib.hid hbel
    by_cases hlt : k < n
    · obtain ⟨b, off, cap', hA, hbl, d0', d1'⟩ := HV0.out.at (i := k) (by rw [HN.out]; exact hlt)
      have d0 := (hbel.cell (p := ⟨b, off + k * 2, none⟩) hbl).trans d0'
      have d1 := (hbel.cell (p := ⟨b, off + k * 2 + 1, none⟩) hbl).trans d1'
      obtain ⟨rfl, rfl⟩ : A = some ⟨b, off, none⟩ ∧ cap = cap' := by injection hA with h1 h2 h3; exact ⟨h1, h3⟩
      clear hA d0' d1' hbel
      go_wp2_with fail
      refine (Of1_any (p := p) (vAt l k) ((HBe.out.cell (p := ⟨q, 0, none⟩) hqs).trans HQ.out)).mono ?_
      rintro e w2 ⟨rfl, b2⟩
      have HB2 := Lib.hid (bl_then HBe.out b2)
      clear b2
      by_cases hp : (vAt l k).p = p
      · have HP := Lib.hid hp
        have hd : decide ((vAt l k).p = p) = true := by simpa using hp
        clear hp
        go_wp2_with fail
        go_ret
        exact ⟨_, rfl, .inr ⟨k, rfl, by rw [HN.out]; exact hlt, HP.out, hF.out⟩, HB2.out⟩
      · have HP := Lib.hid hp
        have hd : decide ((vAt l k).p = p) = false := by simpa using hp
        clear hp
        go_wp2_with fail
        go_roundw
        case rel => exact ⟨k + 1, by omega, by go_num, fun j hj => by
          by_cases e : j = k
          · subst e; exact HP.out
          · exact hF.out j (by omega), HB2.out⟩
        case measure => simp [intOf]; omega
    · obtain rfl : k = n := by omega
      clear hbel
      go_wp2
      go_ret
      exact ⟨_, rfl, .inl ⟨rfl, by rw [HN.out]; exact hF.out⟩, HBe.out⟩

set_option maxRecDepth 100000 in
set_option maxHeartbeats 2000000 in
theorem Of_any' {w : World} {c : C} {v : Value} (p : Int) (hx : c.x.length = 32) (hv : VRow w v c.vs) (hl : c.vs.length ≤ 1000000) :
    Calls Try.prog 18 #[.agg (ccs c v).toArray, .int .i64 p] w (SigOut c.vs p w) := by
  have q33 := ccs_33 hx v
  have D0 : (w.alloc (.cells (ccs c v).toArray 26)).heap[w.heap.size]? = some _ := kb_new rfl _
  have b0 : Below w.heap.size w (w.alloc (.cells (ccs c v).toArray 26)) := bl_alloc (Below.refl _ _) _
  have D1 := kb_alloc D0 (.cells #[.int .i64 p] 3)
  have c33 := (kb_cell D1 33).trans (by simpa using q33)
  have b1 := bl_alloc b0 (.cells #[.int .i64 p] 3)
  have HQ := Lib.hid (show ((w.alloc (.cells (ccs c v).toArray 26)).alloc (.cells #[.int .i64 p] 3)).cell? ⟨w.heap.size + 1, 0, none⟩ = some (.int .i64 p) from kb_cell (kb_new (by simp) _) 0)
  have HB := Lib.hid b1
  have HV0 := Lib.hid hv
  obtain ⟨A, cap, hvv⟩ := hv.form
  subst hvv
  clear hv b0 hx b1
  obtain ⟨n, hn⟩ : ∃ n, c.vs.length = n := ⟨_, rfl⟩
  have HN := Lib.hid hn
  rw [hn] at hl D0 D1 c33 HV0 HB HQ q33 ⊢
  clear hn
  go_enter Try.func18, Try.ntmps18
  go_wp2_with fail
  refine (IndexFunc_any (p := p) (HV0.out.below HB.out) HQ.out (by rw [HN.out]; exact hl)).mono ?_
  rintro e w2 ⟨r, rfl, hr, b2⟩
  have D2 := kb_below b2 D1
  have c33' := (kb_cell D2 33).trans (by simpa using q33)
  have HB2 := Lib.hid (bl_then HB.out b2)
  clear D0 D1 c33 D2 b2
  rcases hr with ⟨rfl, hno⟩ | ⟨i, rfl, hi, hp, hbf⟩
  · have HNo := Lib.hid hno
    clear hno
    go_wp2_with fail
    go_ret2
    exact SigOut.no HNo.out rfl HB2.out
  · obtain ⟨b, off, cap', hA, hbl, d0', d1'⟩ := HV0.out.at hi
    have d1 := (HB2.out.cell (p := ⟨b, off + i * 2 + 1, none⟩) hbl).trans d1'
    obtain ⟨rfl, rfl⟩ : A = some ⟨b, off, none⟩ ∧ cap = cap' := by injection hA with h1 h2 h3; exact ⟨h1, h3⟩
    have HH := Lib.hid (And.intro hi (And.intro hp hbf))
    have hin : i < n := by rw [← HN.out]; exact hi
    clear hA d0' d1' hi hp hbf
    go_wp2_with fail
    go_ret2
    exact SigOut.yes HH.out.1 HH.out.2.1 HH.out.2.2 rfl HB2.out

set_option maxRecDepth 100000 in
set_option maxHeartbeats 2000000 in
theorem rOf_any' {w : World} {c : C} {v : Value} (p : Int) (hx : c.x.length = 32) (hv : VRow w v c.vs) (hl : c.vs.length ≤ 1000000) :
    Calls Try.prog 32 #[.agg (ccs c v).toArray, .int .i64 p] w (SigOut c.vs p w) := by
  have q33 := ccs_33 hx v
  have D0 : (w.alloc (.cells (ccs c v).toArray 26)).heap[w.heap.size]? = some _ := kb_new rfl _
  have b0 : Below w.heap.size w (w.alloc (.cells (ccs c v).toArray 26)) := bl_alloc (Below.refl _ _) _
  have c33 := (kb_cell D0 33).trans (by simpa using q33)
  have HB := Lib.hid b0
  have HV0 := Lib.hid hv
  obtain ⟨A, cap, hvv⟩ := hv.form
  subst hvv
  clear hv b0 hx
  obtain ⟨n, hn⟩ : ∃ n, c.vs.length = n := ⟨_, rfl⟩
  have HN := Lib.hid hn
  rw [hn] at hl D0 c33 HV0 HB q33 ⊢
  clear hn
  go_enter Try.func32, Try.ntmps32
  go_wp2_with fail
  obtain ⟨wb, hwb⟩ : ∃ wb : World, wb = w.alloc (.cells (ccs c (.slice A n cap)).toArray 26) := ⟨_, rfl⟩
  have HW := Lib.hid (show Below w.heap.size w wb by rw [hwb]; exact HB.out)
  have HK := Lib.hid (show wb.cell? ⟨w.heap.size, 33, none⟩ = some (.slice A n cap) by rw [hwb]; exact c33)
  rw [← hwb]
  clear hwb D0 c33 HB q33
  go_loopw [6, 7, 8, 9, 10, 11, 12, 13, 14, 15, 16, 17, 18, 19, 20, 21, 22, 23, 24, 25, 26, 27] (fun s6 _ _ _ _ _ _ _ _ _ _ _ _ _ _ _ _ _ _ _ _ _ wr => ∃ (k : Nat), k ≤ n ∧ s6 = .int .i64 k ∧ Hid (∀ j, j < k → (vAt c.vs j).p ≠ p) ∧ wb = wr) (fun s6 _ _ _ _ _ _ _ _ _ _ _ _ _ _ _ _ _ _ _ _ _ _ => n - (intOf s6).toNat)
  case atStart => exact ⟨0, by omega, rfl, fun j hj => by omega, rfl⟩
  case round =>
    obtain ⟨k, hk, rfl, hF, rfl⟩ := hrel
    have h33 := HK.out
    by_cases hlt : k < n
    · obtain ⟨b, off, cap', hA, hbl, d0', d1'⟩ := HV0.out.at (i := k) (by rw [HN.out]; exact hlt)
      have d0 := (HW.out.cell (p := ⟨b, off + k * 2, none⟩) hbl).trans d0'
      have d1 := (HW.out.cell (p := ⟨b, off + k * 2 + 1, none⟩) hbl).trans d1'
      obtain ⟨rfl, rfl⟩ : A = some ⟨b, off, none⟩ ∧ cap = cap' := by injection hA with h1 h2 h3; exact ⟨h1, h3⟩
      clear hA d0' d1'
      by_cases hp : (vAt c.vs k).p = p
      · have HP := Lib.hid hp
        have hd : ((vAt c.vs k).p == p) = true := by simpa using hp
        clear hp
        go_wp2_with fail
        go_ret2
        exact SigOut.yes (by rw [HN.out]; exact hlt) HP.out hF.out rfl HW.out
      · have HP := Lib.hid hp
        have hd : ((vAt c.vs k).p == p) = false := by simpa using hp
        clear hp
        go_wp2_with fail
        go_roundw
        case rel => exact ⟨k + 1, by omega, by go_num, fun j hj => by
          by_cases e : j = k
          · subst e; exact HP.out
          · exact hF.out j (by omega), trivial⟩
        case measure => simp [intOf]; omega
    · obtain rfl : k = n := by omega
      go_wp2
      go_ret2
      exact SigOut.no (by rw [HN.out]; exact hF.out) rfl HW.out
end Go.Proofs.Ytooghjnddifpdaa
