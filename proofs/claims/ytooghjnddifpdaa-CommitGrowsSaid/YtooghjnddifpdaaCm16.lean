/- commit.joined. -/
import Derived.Test.YtooghjnddifpdaaCm15
import Derived.WalkMore
namespace Go.Proofs.Ytooghjnddifpdaa
open Go.RowKit Go.Proofs.Ytooghjnddifpdaa.Cm BigFrame
set_option linter.unusedSimpArgs false
set_option linter.unusedVariables false
attribute [local go_sem] cell_alloc_some frozen_alloc_some

theorem join_one (L : List Vt) (v : Vt) : joinP L [v] = match findV L v.p with
    | none => some (laidV L v)
    | some g => if g = v.g then some L else none := by
  conv => lhs; unfold joinP
  cases findV L v.p with
  | none => rfl
  | some g => simp only; split <;> rfl
theorem join_step {pre L l : List Vt} {k : Nat} (h : joinP [] (pre ++ l.take k) = some L) (hk : k < l.length) : joinP [] (pre ++ l.take (k + 1)) = joinP L [vAt l k] := by
  have e : l.take (k + 1) = l.take k ++ [vAt l k] := by
    rw [List.take_add_one, vAt_some hk]; rfl
  rw [e, ← List.append_assoc, join_append, h]; rfl
theorem join_none {a b : List Vt} (h : joinP [] a = none) : joinP [] (a ++ b) = none := by rw [join_append, h]; rfl
/-- Rows of votes, side by side. -/
def TwoRows (w : World) (b : Nat) (u v : Value) (l m : List Vt) : Prop := w.heap[b]? = some (.cells #[u, v] 24 (0, 0)) ∧ VRow w u l ∧ VRow w v m
/-- What joined answers. -/
def JoinOut (l : List Vt) (w : World) (e : Ending) (w' : World) : Prop := ∃ s ok, e = .returned (.tuple #[s, .bool ok]) ∧ Below w.heap.size w w' ∧ ok = (joinP [] l).isSome ∧ ∀ L, joinP [] l = some L → w'.ownsRow w.heap.size 29 2 s L.length (vcs L)
/-- So many votes are put together. -/
structure Jn (pre l : List Vt) (k : Nat) (L : List Vt) : Prop where
  j : joinP [] (pre ++ l.take k) = some L
  r : Rs (-1) L
  n : L.length ≤ pre.length + k
theorem Jn.laid {pre l L : List Vt} {k : Nat} (h : Jn pre l k L) (hk : k < l.length) (hr : Rs (-1) l) (hf : findV L (vAt l k).p = none) : Jn pre l (k + 1) (laidV L (vAt l k)) := by
  obtain ⟨h1, h2, h3⟩ := hr.mem (List.mem_of_getElem? (vAt_some hk))
  refine ⟨?_, laid_rs h.r h1 h2 h3 hf, by rw [laid_len]; have := h.n; omega⟩
  rw [join_step h.j hk, join_one, hf]
theorem Jn.same {pre l L : List Vt} {k : Nat} (h : Jn pre l k L) (hk : k < l.length) (hf : findV L (vAt l k).p = some (vAt l k).g) : Jn pre l (k + 1) L := by
  refine ⟨?_, h.r, by have := h.n; omega⟩
  rw [join_step h.j hk, join_one, hf]
  simp
theorem Jn.bad {pre l L post : List Vt} {k g : Nat} (h : Jn pre l k L) (hk : k < l.length) (hf : findV L (vAt l k).p = some g) (hg : g ≠ (vAt l k).g) : joinP [] (pre ++ l ++ post) = none := by
  have e : joinP [] (pre ++ l.take (k + 1)) = none := by
    rw [join_step h.j hk, join_one, hf]
    simp [hg]
  have : pre ++ l ++ post = (pre ++ l.take (k + 1)) ++ (l.drop (k + 1) ++ post) := by
    rw [List.append_assoc, List.append_assoc, ← List.append_assoc (l.take (k + 1)), List.take_append_drop]
  rw [this]
  exact join_none e
theorem Jn.start {pre L q : List Vt} (h : Jn pre [] 0 L) : Jn pre q 0 L := ⟨by have := h.j; simpa using this, h.r, h.n⟩
theorem Jn.next {pre L q : List Vt} (h : Jn pre q q.length L) : Jn (pre ++ q) [] 0 L := ⟨by have := h.j; simpa using this, h.r, by have := h.n; simp; omega⟩
theorem Jn.end {pre L : List Vt} (h : Jn pre [] 0 L) : joinP [] pre = some L := by have := h.j; simpa using this
theorem JoinOut.yes {l L : List Vt} {w w' : World} {s : Value} {e : Ending} (h : joinP [] l = some L) (ho : w'.ownsRow w.heap.size 29 2 s L.length (vcs L)) (hb : Below w.heap.size w w') (he : e = .returned (.tuple #[s, .bool true])) : JoinOut l w e w' :=
  ⟨s, true, he, hb, by rw [h]; rfl, fun M hM => by rw [h] at hM; injection hM with hM; subst hM; exact ho⟩
theorem JoinOut.no {l : List Vt} {w w' : World} {s : Value} {e : Ending} (h : joinP [] l = none) (hb : Below w.heap.size w w') (he : e = .returned (.tuple #[s, .bool false])) : JoinOut l w e w' :=
  ⟨s, false, he, hb, by rw [h]; rfl, fun M hM => by rw [h] at hM; cases hM⟩
/-- The vote at the cut. -/
theorem cut_vote {L : List Vt} {p : Int} {g : Nat} (hr : Rs (-1) L) (hf : findV L p = some g) : cutN L p < L.length ∧ vAt L (cutN L p) = ⟨p, g⟩ := by
  have h := cut_find (p := p) hr
  rw [hf] at h
  by_cases hi : cutN L p < L.length
  · refine ⟨hi, ?_⟩
    rw [vAt_some hi] at h
    simp only at h
    split at h
    · rename_i e
      injection h with h
      cases hv : vAt L (cutN L p)
      rw [hv] at e h
      simp only at e h
      rw [e, h]
    · cases h
  · rw [List.getElem?_eq_none (by omega)] at h
    cases h

set_option maxRecDepth 100000 in
set_option maxHeartbeats 4000000 in
theorem joined_any {w : World} {b0 : Nat} {u v : Value} {l m : List Vt} (hT : TwoRows w b0 u v l m) (hl : Rs (-1) l) (hm : Rs (-1) m) (hl1 : l.length ≤ 1000) (hm1 : m.length ≤ 1000) :
    Calls Try.prog 48 #[.slice (some ⟨b0, 0, none⟩) 2 2] w (JoinOut (l ++ m) w) := by
  have HT := Lib.hid hT
  have HR := Lib.hid (And.intro hl hm)
  have hb0 : b0 < w.heap.size := kb_lt hT.1
  clear hT hl hm
  go_enter Try.func48, Try.ntmps48
  go_wp2_with fail
  go_step3
  go_wp2_with fail
  go_step3
  go_wp2_with fail
  go_loopw [2, 3, 5, 7, 8, 9, 12, 13, 14, 15, 16, 17, 18, 19, 20, 21, 22, 23, 24, 25, 26, 27, 28, 29, 30, 31, 32, 33, 34, 35, 36, 37, 38, 39, 40, 41, 42, 43, 44, 45] (fun s2 s3 _ _ _ _ s12 _ _ _ _ _ _ _ _ _ _ _ _ _ _ _ _ _ _ _ _ _ _ _ _ _ _ _ _ _ _ _ _ _ wr => ∃ (i : Nat) (pre L : List Vt), (i = 0 ∧ pre = [] ∨ i = 1 ∧ pre = l ∨ i = 2 ∧ pre = l ++ m) ∧ s12 = .int .i64 i ∧ s3 = .bool true ∧ Hid (Jn pre [] 0 L) ∧ Hid (wr.ownsRow w.heap.size 29 2 s2 L.length (vcs L)) ∧ Below w.heap.size w wr) (fun _ _ _ _ _ _ s12 _ _ _ _ _ _ _ _ _ _ _ _ _ _ _ _ _ _ _ _ _ _ _ _ _ _ _ _ _ _ _ _ _ _ => 2 - (intOf s12).toNat)
  case atStart => exact ⟨0, [], [], .inl ⟨rfl, rfl⟩, rfl, rfl, Lib.hid ⟨rfl, trivial, Nat.le_refl _⟩, Lib.hid (World.ownsRow_nil _ _ _ _), Below.refl _ _⟩
  case round =>
    obtain ⟨i, pre, L, hi, rfl, rfl, hJ, hO, hbel⟩ := hrel
    have HBe := Lib.hid hbel
    have HJ := hJ
    have HO := hO
    obtain ⟨A2, c2, rfl⟩ := owns_slice0 hO.out
    by_cases hlt : i < 2
    · obtain ⟨q, post, vq, hq, hqr, hq1, hrow, hcell, hnext⟩ : ∃ (q post : List Vt) (vq : Value), l ++ m = pre ++ q ++ post ∧ Rs (-1) q ∧ q.length ≤ 1000 ∧ VRow w vq q ∧ w.cell? ⟨b0, i, none⟩ = some vq ∧ (i + 1 = 0 ∧ pre ++ q = [] ∨ i + 1 = 1 ∧ pre ++ q = l ∨ i + 1 = 2 ∧ pre ++ q = l ++ m) := by
        rcases hi with ⟨rfl, rfl⟩ | ⟨rfl, rfl⟩ | ⟨rfl, rfl⟩
        · exact ⟨l, m, u, by simp, HR.out.1, hl1, HT.out.2.1, kb_cell HT.out.1 0, .inr (.inl ⟨rfl, by simp⟩)⟩
        · exact ⟨m, [], v, by simp, HR.out.2, hm1, HT.out.2.2, kb_cell HT.out.1 1, .inr (.inr ⟨rfl, rfl⟩)⟩
        · omega
      have d0 := (hbel.cell (p := ⟨b0, i, none⟩) hb0).trans hcell
      have hpl : pre.length ≤ 2000 := by (rcases hi with ⟨_, rfl⟩ | ⟨_, rfl⟩ | ⟨_, rfl⟩ <;> first | omega | (simp only [List.length_append, List.length_nil]; omega))
      have HQ := Lib.hid (And.intro hq (And.intro hqr (And.intro hrow hnext)))
      obtain ⟨A, cap, hvv⟩ := hrow.form
      subst hvv
      obtain ⟨n, hn⟩ : ∃ n, q.length = n := ⟨_, rfl⟩
      have HN := Lib.hid hn
      rw [hn] at hq1 HQ d0
      have hd2 : decide ((i : Int) < 2) = true := decide_eq_true (by omega)
      clear hq hqr hrow hnext hcell hbel hi hn hJ hO
      go_wp2_with fail
      go_loopw [2, 3, 7, 8, 9, 18, 19, 20, 21, 22, 23, 24, 25, 26, 27, 28, 29, 30, 31, 32, 33, 34, 35, 36, 37, 38, 39, 40, 41, 42, 43, 44] (fun s2 s3 _ _ _ s18 _ _ _ _ _ _ _ _ _ _ _ _ _ _ _ _ _ _ _ _ _ _ _ _ _ _ wr => ∃ (k : Nat) (L : List Vt), k ≤ n ∧ s18 = .int .i64 k ∧ s3 = .bool true ∧ Hid (Jn pre q k L) ∧ Hid (wr.ownsRow w.heap.size 29 2 s2 L.length (vcs L)) ∧ Below w.heap.size w wr) (fun _ _ _ _ _ s18 _ _ _ _ _ _ _ _ _ _ _ _ _ _ _ _ _ _ _ _ _ _ _ _ _ _ _ => n - (intOf s18).toNat)
      case atStart => exact ⟨0, L, by omega, rfl, rfl, Lib.hid HJ.out.start, HO, HBe.out⟩
      case round =>
        clear HBe HJ HO
        obtain ⟨k, M, hk, rfl, rfl, hJ, hO, hbel⟩ := hrel
        have HBe := Lib.hid hbel
        have HJ := hJ
        have HO := hO
        obtain ⟨A3, c3, rfl⟩ := owns_slice0 hO.out
        by_cases hkn : k < n
        · obtain ⟨b, off, cap', hA, hbl, d0', d1'⟩ := HQ.out.2.2.1.at (i := k) (by rw [HN.out]; exact hkn)
          have d0 := (hbel.cell (p := ⟨b, off + k * 2, none⟩) hbl).trans d0'
          have d1 := (hbel.cell (p := ⟨b, off + k * 2 + 1, none⟩) hbl).trans d1'
          obtain ⟨rfl, rfl⟩ : A = some ⟨b, off, none⟩ ∧ cap = cap' := by injection hA with h1 h2 h3; exact ⟨h1, h3⟩
          have HI := Lib.hid (show k < q.length by rw [HN.out]; exact hkn)
          have X0 : (wr.alloc (.cells #[.int .i64 (vAt q k).p, .int .u64 (vAt q k).g] 29)).heap[wr.heap.size]? = some _ := kb_new rfl _
          have HX := Lib.hid X0
          have hML : M.length ≤ 4000 := by have := HJ.out.n; omega
          have hO1 := Lib.hid (HO.out.alloc (.cells #[.int .i64 (vAt q k).p, .int .u64 (vAt q k).g] 29))
          have hb1 := Lib.hid (bl_alloc HBe.out (.cells #[.int .i64 (vAt q k).p, .int .u64 (vAt q k).g] 29))
          clear hA d0' d1' hbel hJ hO X0
          go_wp2_with fail
          refine (BinarySearch_any (vAt q k).p (VRow.of_own hO1.out) HJ.out.r (by omega)).mono ?_
          rintro e w2 ⟨rfl, b2⟩
          have HX2 := Lib.hid (kb_below b2 HX.out)
          obtain ⟨x0, x1⟩ := vt_boxed HX2.out
          have HO2 := Lib.hid ((Keep.of_below (S := fun _ => False) b2).row hO1.out (fun _ _ h => h))
          have HB2 := Lib.hid (bl_then hb1.out b2)
          have hcut := cut_le M (vAt q k).p
          clear b2 d0 d1
          cases hf : findV M (vAt q k).p with
          | none =>
            have his : (Option.none : Option Nat).isSome = false := rfl
            have HF := Lib.hid hf
            have ho3 := Lib.hid (HO2.out.alloc (.cells #[.int .i64 (vAt q k).p, .int .u64 (vAt q k).g] 29))
            have l3 : (w2.alloc (.cells #[.int .i64 (vAt q k).p, .int .u64 (vAt q k).g] 29)).heap[w2.heap.size]? = some _ := kb_new rfl _
            have HL3 := Lib.hid l3
            have hn3 : (Value.slice A3 M.length c3).ownBlock ≠ some w2.heap.size := fun h => by have := (HO2.out.lt _ h).2; omega
            have HN3 := Lib.hid hn3
            clear hf l3 hn3
            go_wp2_with fail
            refine (Insert_any (x := vAt q k) (cutN M (vAt q k).p) ho3.out HL3.out HN3.out hcut (by have := HB2.out.size; simp; omega) (by omega)).mono ?_
            rintro e w4 ⟨s', rfl, ho', k', hb'⟩
            rw [← laid_cut HJ.out.r HF.out] at ho'
            have b4 : Below w.heap.size w w4 := ((Keep.of_below (S := fun _ => False) (bl_alloc HB2.out _)).trans k' (fun b h e => by have := (HO2.out.lt b e).1; omega)).below (Nat.le_refl _) (fun b e => e.elim)
            have HP := Lib.hid (And.intro ho' (And.intro b4 (HJ.out.laid HI.out HQ.out.2.1 HF.out)))
            generalize laidV M (vAt q k) = M' at *
            obtain ⟨A4, c4, rfl⟩ := owns_slice0 ho'
            clear ho' k' hb' b4
            go_wp2_with fail
            go_roundw
            case rel => exact ⟨k + 1, M', by omega, by go_num, rfl, Lib.hid HP.out.2.2, Lib.hid HP.out.1, HP.out.2.1⟩
            case measure => simp [intOf]; omega
          | some g =>
            have his : (some g).isSome = true := rfl
            obtain ⟨hcl, hcv⟩ := cut_vote HJ.out.r hf
            have HV := VRow.of_own HO2.out
            obtain ⟨b', off', cap2, hA', hbl', f0, f1⟩ := HV.at hcl
            obtain ⟨rfl, rfl⟩ : A3 = some ⟨b', off', none⟩ ∧ c3 = cap2 := by injection hA' with h1 h2 h3; exact ⟨h1, h3⟩
            have hq := neq_vt (vAt M (cutN M (vAt q k).p)) (vAt q k)
            have hci : ((cutN M (vAt q k).p : Nat) : Int) < (M.length : Int) := by omega
            have HF := Lib.hid (And.intro hf hcv)
            clear hf hcv hA' HV
            by_cases hg : g = (vAt q k).g
            · have hd : decide (vAt M (cutN M (vAt q k).p) = vAt q k) = true := by
                rw [decide_eq_true_iff, HF.out.2, hg]
              rw [hd] at hq
              have HG := Lib.hid (HJ.out.same HI.out (by rw [HF.out.1, hg]))
              clear hd hg
              go_wp2_with fail
              go_quiet (fail)
              go_wp2_with fail
              go_roundw
              case rel => exact ⟨k + 1, M, by omega, by go_num, rfl, Lib.hid HG.out, Lib.hid HO2.out, bl_drewN HB2.out _⟩
              case measure => simp [intOf]; omega
            · have hd : decide (vAt M (cutN M (vAt q k).p) = vAt q k) = false := by
                rw [decide_eq_false_iff_not, HF.out.2]
                intro h
                apply hg
                rw [← h]
              rw [hd] at hq
              have HG := Lib.hid (HJ.out.bad (post := post) HI.out HF.out.1 hg)
              clear hd hg
              go_wp2_with fail
              go_quiet (fail)
              go_wp2_with fail
              rw [Exit.noGoto_ret]
              go_ret2
              exact JoinOut.no (by rw [HQ.out.1]; exact HG.out) (bl_drewN HB2.out _) rfl
        · obtain rfl : k = n := by omega
          have HE := Lib.hid (Jn.next (by rw [HN.out]; exact HJ.out))
          clear hbel hJ hO
          go_wp2_with fail
          go_roundw
          case rel => exact ⟨i + 1, pre ++ q, M, HQ.out.2.2.2, by go_num, rfl, HE, HO, HBe.out⟩
          case measure => simp [intOf]; omega
    · have hi2 : i = 2 ∧ pre = l ++ m := by rcases hi with ⟨rfl, _⟩ | ⟨rfl, _⟩ | h <;> first | omega | exact h
      obtain ⟨rfl, rfl⟩ := hi2
      clear hi hbel hJ hO
      go_wp2_with fail
      rw [Exit.noGoto_ret]
      go_ret2
      exact JoinOut.yes HJ.out.end HO.out HBe.out rfl
end Go.Proofs.Ytooghjnddifpdaa
