/- The walks of package peers: New. -/
import Derived.Test.YtlnhofpjeinadaaPee16
import Derived.Deep.RegionLaw
namespace Go.Proofs.Ytlnhofpjeinadaa
open Go.RowKit Go.Proofs.Ytlnhofpjeinadaa.Pc Go.Shelf BigFrame
attribute [local go_sem] run_store_float
set_option linter.unusedSimpArgs false
set_option linter.unusedVariables false

/-- Providers as they are made; the cells of a list of them. -/
def newP (m : Mr) : Pr := ⟨1, 0, m.s, m.p⟩
def newL (ms : List Mr) : List Pr := ms.map newP
def pcs (lay : Pr → List Value) (L : List Pr) : List Value := L.flatMap lay
theorem pcs_snoc (lay : Pr → List Value) (L : List Pr) (x : Pr) : pcs lay (L ++ [x]) = pcs lay L ++ lay x := by simp [pcs]
theorem pcs_at {lay : Pr → List Value} (hlay : ∀ y, (lay y).length = 4) : (L : List Pr) → (i : Nat) → (x : Pr) → L[i]? = some x → (j : Nat) → (u : Value) → (lay x)[j]? = some u → (pcs lay L)[i * 4 + j]? = some u
  | [], i, x, h, _, _, _ => by simp at h
  | y :: L, 0, x, h, j, u, hu => by
    simp at h; subst h
    have hj : j < (lay y).length := (List.getElem?_eq_some_iff.1 hu).1
    show (lay y ++ pcs lay L)[_]? = _
    rw [List.getElem?_append_left (by omega), show 0 * 4 + j = j by omega]
    exact hu
  | y :: L, i + 1, x, h, j, u, hu => by
    have ih := pcs_at hlay L i x (by simpa using h) j u hu
    show (lay y ++ pcs lay L)[_]? = _
    rw [List.getElem?_append_right (by rw [hlay]; omega), hlay, show (i + 1) * 4 + j - 4 = i * 4 + j by omega]
    exact ih
theorem pcs_len {lay : Pr → List Value} (hlay : ∀ y, (lay y).length = 4) (L : List Pr) : (pcs lay L).length = L.length * 4 := by
  induction L with
  | nil => rfl
  | cons y L ih => show (lay y ++ pcs lay L).length = _; rw [List.length_append, ih, hlay]; simp; omega
theorem PX.of_own {T1 T2 : TypeId} {lay : Pr → List Value} {w : World} {q B : Nat} {v : Value} {L : List Pr} (hlay : ∀ y, (lay y).length = 4) (hst : w.heap[q]? = some (.cells #[v] T1)) (hown : w.ownsRow B T2 4 v L.length (pcs lay L)) (hB : q < B)
    (pos : 1 ≤ L.length) (hi : L.length ≤ 16) (fit : ∀ x ∈ L, x.Fit) : ∃ g, PX T1 T2 lay w q g L ∧ B ≤ g := by
  rcases hown.2 with ⟨_, h0⟩ | ⟨g, cap, cur, rfl, hg, hh, _, _, _, ht⟩
  · omega
  · refine ⟨g, ⟨⟨cap, hst⟩, ⟨cur, hh, fun i x hx j u hu => ?_⟩, by omega, pos, hi, fit⟩, hg⟩
    have h1 := pcs_at hlay L i x hx j u hu
    rw [← Array.getElem?_toList]
    rw [← ht, List.getElem?_take] at h1
    split at h1
    · exact h1
    · cases h1
/-- May peers be made of these? -/
def okMs (ms : List Mr) : Bool := ms.all fun m => okS m.s
def okW (n : Nat) (wit : Int) : Bool := decide (1 ≤ n ∧ n ≤ 16 ∧ 0 ≤ wit ∧ wit < 16)
def okN (ms : List Mr) (wit : Int) : Bool := okW ms.length wit && okMs ms
theorem okW_no {n : Nat} {wit : Int} (h : okW n wit = false) : n < 1 ∨ (1 ≤ n ∧ 16 < n) ∨ (1 ≤ n ∧ n ≤ 16 ∧ wit < 0) ∨ (1 ≤ n ∧ n ≤ 16 ∧ 0 ≤ wit ∧ 16 ≤ wit) := by
  simp [okW] at h
  omega
theorem newL_fit {ms : List Mr} (h : okMs ms = true) (hf : Go.Proofs.Ytlnhofpjeinadaa.Fit ms) : ∀ x ∈ newL ms, x.Fit := by
  intro x hx
  obtain ⟨m, hm, rfl⟩ := List.mem_map.1 hx
  refine ⟨by simp [newP], by simp [newP], by simp [newP], by simp [newP], ?_, hf m hm⟩
  exact List.all_eq_true.1 h m hm
theorem newL_take {ms : List Mr} {k : Nat} {m : Mr} (h : ms[k]? = some m) : newL (ms.take (k + 1)) = newL (ms.take k) ++ [newP m] := by
  unfold newL
  rw [List.take_add_one, h, List.map_append]; rfl
theorem newL_all (ms : List Mr) : newL (ms.take ms.length) = newL ms := by rw [List.take_length]
theorem newL_len (ms : List Mr) : (newL ms).length = ms.length := by simp [newL]
theorem okMs_take {ms : List Mr} {k : Nat} {m : Mr} (h : okMs (ms.take k) = true) (hm : ms[k]? = some m) (hs : okS m.s = true) : okMs (ms.take (k + 1)) = true := by
  unfold okMs at *
  rw [List.take_add_one, hm, List.all_append, h]
  simp [hs]
theorem okMs_bad {ms : List Mr} {k : Nat} {m : Mr} (hm : ms[k]? = some m) (hs : okS m.s = false) : okMs ms = false := by
  cases h : okMs ms
  · rfl
  · have := List.all_eq_true.1 h m (List.mem_of_getElem? hm)
    rw [hs] at this
    cases this
/-- What New leaves. -/
def NewPost (T1 T2 : TypeId) (lay : Pr → List Value) (ms : List Mr) (wit : Int) (w : World) (e : Ending) (w' : World) : Prop :=
  if okN ms wit then ∃ q g k, e = .returned (.tuple #[.pointer (some ⟨q, 0, none⟩), .int .i64 0]) ∧ fills wit (fillL wit (nextL (newL ms)) k) = false ∧ PX T1 T2 lay w' q g (fillL wit (nextL (newL ms)) k) ∧ w.heap.size ≤ q ∧ w.heap.size ≤ g ∧ Below w.heap.size w w'
  else e = .returned (.tuple #[.pointer none, .int .i64 3]) ∧ Below w.heap.size w w'
theorem newPost_no {T1 T2 : TypeId} {lay : Pr → List Value} {ms : List Mr} {wit : Int} {w w' : World} (h : okN ms wit = false) (hb : Below w.heap.size w w') : NewPost T1 T2 lay ms wit w (.returned (.tuple #[.pointer none, .int .i64 3])) w' := by
  unfold NewPost
  rw [if_neg (by rw [h]; decide)]
  exact ⟨rfl, hb⟩
theorem okN_w {ms : List Mr} {wit : Int} (h : okW ms.length wit = false) : okN ms wit = false := by unfold okN; rw [h]; rfl
theorem okN_m {ms : List Mr} {wit : Int} (h : okMs ms = false) : okN ms wit = false := by unfold okN; rw [h, Bool.and_false]
/-- What the loop keeps. -/
def NewI (T1 T2 : TypeId) (lay : Pr → List Value) (ms : List Mr) (w wr : World) (k : Nat) : Prop :=
  okMs (ms.take k) = true ∧ ∃ v, wr.heap[w.heap.size]? = some (.cells #[v] T1) ∧ wr.ownsRow (w.heap.size + 1) T2 4 v k (pcs lay (newL (ms.take k)))
theorem infoPP : (Try.prog.info? 71).map (fun i => (i.zero, i.size, i.bytes)) = some (some (.agg #[.int .i64 0, .float .f64 0, .int .i64 0, .int .i64 0]), 4, 32) := by kernel_rfl
theorem infoRP : (Try.prog.info? 89).map (fun i => (i.zero, i.size, i.bytes)) = some (some (.agg #[.int .i64 0, .int .i64 0, .int .i64 0, .float .f64 0]), 4, 32) := by kernel_rfl
theorem four_new (w : World) (v0 v1 v2 v3 : Value) (t : TypeId) : ∀ j u, [v0, v1, v2, v3][j]? = some u → (w.alloc (.cells #[v0, v1, v2, v3] t)).cell? ((⟨w.heap.size, 0, none⟩ : Addr).add j) = some u := by
  intro j u hj
  have hb : (w.alloc (.cells #[v0, v1, v2, v3] t)).heap[w.heap.size]? = some _ := kb_new rfl _
  match j, hj with
  | 0, hj => simpa [Addr.add, kb_cell hb] using hj
  | 1, hj => simpa [Addr.add, kb_cell hb] using hj
  | 2, hj => simpa [Addr.add, kb_cell hb] using hj
  | 3, hj => simpa [Addr.add, kb_cell hb] using hj

set_option maxRecDepth 100000 in
set_option maxHeartbeats 4000000 in
theorem New_bad {A : Option Addr} {n cap : Nat} {wit : Int} {w : World} (h : okW n wit = false) (hn : n ≤ 1000) : Calls Try.prog 18 #[.slice A n cap, .int .i64 wit] w fun e w' => e = .returned (.tuple #[.pointer none, .int .i64 3]) ∧ w = w' := by
  rcases okW_no h with h1 | ⟨h1, h2⟩ | ⟨h1, h2, h3⟩ | ⟨h1, h2, h3, h4⟩ <;> clear h
  all_goals
    go_enter Try.func18, Try.ntmps18
    go_wp2
    exact bodyPost_ret (v := .tuple #[.pointer none, .int .i64 3]) (by simp [results, Try.results18, go_sem]) rfl ⟨rfl, rfl⟩

set_option maxRecDepth 100000 in
set_option maxHeartbeats 4000000 in
theorem New_any {v : Value} {ms : List Mr} {w : World} (hR : MRow w v ms) (hF : Go.Proofs.Ytlnhofpjeinadaa.Fit ms) (hl : ms.length ≤ 1000) (wit : Int) : Calls Try.prog 18 #[v, .int .i64 wit] w (NewPost 80 71 layP ms wit w) := by
  obtain ⟨A, cap, rfl, hA⟩ := hR
  cases hW : okW ms.length wit
  · refine (New_bad hW hl).mono ?_
    rintro e w' ⟨rfl, rfl⟩
    exact newPost_no (okN_w hW) (Below.refl _ _)
  have hW' : 1 ≤ ms.length ∧ ms.length ≤ 16 ∧ 0 ≤ wit ∧ wit < 16 := by simpa [okW] using hW
  obtain ⟨h1, h2, h3, h4⟩ := hW'
  obtain ⟨b, off, rfl, hbl, hc⟩ := hA (by omega)
  obtain ⟨i0, hi, hz0, hz1, hz2⟩ := info_parts infoPP
  have HC := Lib.hid hc
  have HW := Lib.hid hW
  have HF := Lib.hid hF
  obtain ⟨n, hn⟩ : ∃ n, ms.length = n := ⟨_, rfl⟩
  have HN := Lib.hid hn
  rw [hn] at h1 h2 ⊢
  clear hc hW hl hn hF
  go_enter Try.func18, Try.ntmps18
  go_wp2_with fail
  go_loopw [8, 29, 30, 31, 32, 33, 34, 35, 36, 37, 38, 39, 40, 41, 42, 43, 44, 45, 46, 47] (fun _ s29 _ _ _ _ _ _ _ _ _ _ _ _ _ _ _ _ _ _ wr => ∃ k : Nat, k ≤ n ∧ s29 = .int .i64 k ∧ Hid (NewI 80 71 layP ms w wr k) ∧ Below w.heap.size w wr) (fun _ s29 _ _ _ _ _ _ _ _ _ _ _ _ _ _ _ _ _ _ _ => n - (intOf s29).toNat)
  case atStart => exact ⟨0, by omega, rfl, ⟨rfl, _, kb_new rfl _, World.ownsRow_nil _ _ _ _⟩, by (repeat (with_reducible (first | exact Below.refl _ _ | assumption | refine bl_alloc ?_ _ | refine bl_drew ?_ | refine bl_drewN ?_ _ | (refine bl_set ?_ ?_ _; (focus (first | (simp; done) | (simp; omega) | omega))) | refine bl_then ?_ (by assumption))))⟩
  case round =>
    obtain ⟨k, hk, rfl, hI, hnx⟩ := hrel
    obtain ⟨hok, v, hst, ho⟩ := hI.out
    by_cases hlt : k < n
    · obtain ⟨m, hm⟩ : ∃ m, ms[k]? = some m := ⟨_, List.getElem?_eq_getElem (by have := HN.out; omega)⟩
      obtain ⟨c0, c1⟩ := HC.out k m hm
      have d0 := (hnx.cell (by exact hbl)).trans c0
      have d1 := (hnx.cell (by exact hbl)).trans c1
      have hbz : b < wr.heap.size := Nat.lt_of_lt_of_le hbl hnx.size
      have HM := Lib.hid hm
      have Hok := Lib.hid hok
      obtain ⟨A, ca, rfl⟩ := owns_slice0 ho
      have HO := Lib.hid ho
      have HST := Lib.hid hst
      clear c0 c1 hm hok hI ho hst
      go_wp2_with fail
      refine (Check_any m.s m.p _).mono ?_
      rintro e w1 ⟨rfl, hb1⟩
      cases hs : okS m.s
      · have hE : chkE m.s = 3 := by unfold chkE; rw [hs]; rfl
        rw [hE]
        have HB := Lib.hid (okN_m (wit := wit) (okMs_bad HM.out hs))
        clear hs hE
        go_wp2
        exact bodyPost_ret (v := .tuple #[.pointer none, .int .i64 3]) (by simp [results, Try.results18, go_sem]) rfl (newPost_no HB.out (by (repeat (with_reducible (first | exact Below.refl _ _ | assumption | refine bl_alloc ?_ _ | refine bl_drew ?_ | refine bl_drewN ?_ _ | (refine bl_set ?_ ?_ _; (focus (first | (simp; done) | (simp; omega) | omega))) | refine bl_then ?_ (by assumption))))))
      · have hE : chkE m.s = 0 := by unfold chkE; rw [hs]; rfl
        rw [hE]
        have HOK := Lib.hid (okMs_take Hok.out HM.out hs)
        have HT := Lib.hid (newL_take HM.out)
        have S1 := kb_below hb1 (kb_alloc HST.out (.cells #[.int .i64 m.s, .float .f64 m.p] 33))
        have M1 := kb_below hb1 (kb_new (w := wr) rfl (.cells #[.int .i64 m.s, .float .f64 m.p] 33))
        have O1 := (Keep.of_below (S := fun _ => False) hb1).row (HO.out.alloc (.cells #[.int .i64 m.s, .float .f64 m.p] 33)) (fun _ _ h => h)
        have hnx1 : Below w.heap.size w w1 := by (repeat (with_reducible (first | exact Below.refl _ _ | assumption | refine bl_alloc ?_ _ | refine bl_drew ?_ | refine bl_drewN ?_ _ | (refine bl_set ?_ ?_ _; (focus (first | (simp; done) | (simp; omega) | omega))) | refine bl_then ?_ (by assumption))))
        have hsz1 := hb1.size
        rw [World.size_alloc] at hsz1
        have hsz := hnx.size
        clear hb1 hs hE d0 d1
        generalize wr.heap.size = z at *
        have q0 := (kb_cell S1 0).trans rfl
        have q1 := (kb_cell M1 0).trans rfl
        have q2 := (kb_cell M1 1).trans rfl
        have hql := kb_lt S1
        have hzl := kb_lt M1
        have hod := owns_drew O1
        go_wp2_with fail
        go_region_law (refine step_append_lies _ rfl _ _ 78 rfl (w.heap.size + 1) 71 i0 (.agg #[.int .i64 0, .float .f64 0, .int .i64 0, .int .i64 0]) 4 32 Try.underlying78 hi hz0 hz1 hz2 rfl (by decide) _ _ _ rfl (hod.alloc _) ⟨w1.heap.size, 0, none⟩ 1 1 [.int .i64 m.s, .float .f64 m.p, .int .i64 1, .int .i64 0] rfl rfl (four_new w1.drew _ _ _ _ _) (by intro v hv; simp at hv; rcases hv with rfl | rfl | rfl | rfl <;> rfl) (by decide) (by unfold maxLen; omega) (by omega) (by simp; omega) _ rfl ?_; intro g' cap' w2 hown' hgrow hat hlt2; have e0 := (hgrow.block w.heap.size (by simp; omega) (fun e => by have := (O1.lt _ e.symm).1; omega)).trans (kb_alloc (kb_drew S1) _); have e1 := (kb_cell e0 0).trans rfl; have ez := kb_frozen e0; have el := kb_lt e0)
        all_goals
          clear q0 q1 q2 hod
          have hnb : (Value.slice (some ⟨g', 0, none⟩) (k + 1) cap').ownBlock ≠ some w.heap.size := fun e => by have := (hown'.lt _ e).1; omega
          have HZ : Hid (NewI 80 71 layP ms w (w2.setCell ⟨w.heap.size, 0, none⟩ (.slice (some ⟨g', 0, none⟩) (k + 1) cap')) (k + 1)) := ⟨HOK.out, _, kb_set e0 _, by rw [HT.out, pcs_snoc]; exact own_set hown' hnb⟩
          have HB : Below w.heap.size w w2 := (bl_alloc (bl_drew hnx1) _).grown hgrow (by simp; omega) (fun j hj => by have := (O1.lt j hj).1; omega)
          clear hown' hgrow hat hlt2 hnb O1 S1 M1 hnx1
          go_wp2
          go_roundw
          case rel => exact ⟨k + 1, by omega, by go_num, HZ, by (repeat (with_reducible (first | exact Below.refl _ _ | assumption | refine bl_alloc ?_ _ | refine bl_drew ?_ | refine bl_drewN ?_ _ | (refine bl_set ?_ ?_ _; (focus (first | (simp; done) | (simp; omega) | omega))) | refine bl_then ?_ (by assumption))))⟩
          case measure => simp [intOf]; omega
    · obtain rfl : k = n := by omega
      have hT : ms.take k = ms := List.take_of_length_le (by rw [HN.out]; exact Nat.le_refl _)
      rw [hT] at hok ho
      have hOK : okN ms wit = true := by unfold okN; rw [hok, HW.out]; rfl
      obtain ⟨g, F, hgB⟩ := PX.of_own layP_len hst (by rw [newL_len, HN.out]; exact ho) (by omega) (by rw [newL_len, HN.out]; exact h1) (by rw [newL_len, HN.out]; exact h2) (newL_fit hok HF.out)
      have HF1 := Lib.hid F
      have HK := Lib.hid hOK
      have hsz := hnx.size
      clear hI hok hst ho hT hOK F
      go_wp2_with fail
      refine (Next_any HF1.out).mono ?_
      rintro e w1 ⟨rfl, F1, K1⟩
      have HF2 := Lib.hid F1
      have HK1 := Lib.hid K1
      clear F1 K1
      go_wp2_with fail
      refine (Fill_any HF2.out wit).mono ?_
      rintro e w2 ⟨kk, v2, rfl, hf, ho2, F2, K2⟩
      obtain ⟨A2, cap2, rfl⟩ := owns_slice0 ho2
      have hb : Below w.heap.size w w2 := (hnx.trans (HK1.out.below (by omega) (fun b hb => by omega))).trans (K2.below (by have := HK1.out.size; omega) (fun b hb => by omega))
      have HZ : Hid (NewPost 80 71 layP ms wit w (.returned (.tuple #[.pointer (some ⟨w.heap.size, 0, none⟩), .int .i64 0])) w2) := Lib.hid (by
        unfold NewPost
        rw [if_pos HK.out]
        exact ⟨_, g, kk, rfl, hf, F2, Nat.le_refl _, by omega, hb⟩)
      clear hf ho2 F2 K2 hb
      go_wp2
      exact bodyPost_ret (v := .tuple #[.pointer (some ⟨w.heap.size, 0, none⟩), .int .i64 0]) (by simp [results, Try.results18, go_sem]) rfl HZ.out
end Go.Proofs.Ytlnhofpjeinadaa
