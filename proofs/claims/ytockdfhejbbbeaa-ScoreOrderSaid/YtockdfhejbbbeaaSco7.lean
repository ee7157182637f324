/- score.Rank and score.Best. -/
import Derived.Test.YtockdfhejbbbeaaSco5
import Derived.Test.YtockdfhejbbbeaaSort6
namespace Go.Proofs.Ytockdfhejbbbeaa
open Go.RowKit Go.Proofs.Ytockdfhejbbbeaa.Pc Go.Proofs.Ytockdfhejbbbeaa.Sy BigFrame

theorem infoI : (Try.prog.info? 3).map (fun i => (i.zero, i.size, i.bytes)) = some (some (.int .i64 0), 1, 8) := by kernel_rfl
/-- Places, as values. -/
def ivs (M : List Nat) : List Value := M.map fun i : Nat => Value.int .i64 (i : Int)
theorem ivs_len (M : List Nat) : (ivs M).length = M.length := by simp [ivs]
theorem ivs_next (k : Nat) : ivs (List.range (k + 1)) = ivs (List.range k) ++ [.int .i64 (k : Int)] := by simp [ivs, List.range_succ]
theorem rowAt_own {w : World} {B n : Nat} {v : Value} {M : List Nat} (h : w.ownsRow B 3 1 v n (ivs M)) (hn : 0 < n) : ∃ g cap rest, v = .slice (some ⟨g, 0, none⟩) n cap ∧ B ≤ g ∧ RowAt w g M rest := by
  rcases h.2 with ⟨_, h0⟩ | ⟨g, cap, cur, rfl, hB, hh, _, _, _, ht⟩
  · omega
  · refine ⟨g, cap, cur.toList.drop (n * 1), rfl, hB, ?_⟩
    have e : cur = rowC M (cur.toList.drop (n * 1)) := by
      unfold rowC
      have : M.map (fun i : Nat => Value.int .i64 (i : Int)) = cur.toList.take (n * 1) := ht.symm
      rw [this, List.take_append_drop]
    unfold RowAt
    rw [← e]
    exact hh
theorem row_of_rowAt {w : World} {g cap : Nat} {M : List Nat} {rest : List Value} {n : Nat} (h : RowAt w g M rest) (hn : M.length = n) : RowOf w (.slice (some ⟨g, 0, none⟩) n cap) n (ivs M) :=
  ⟨_, _, rfl, by rw [ivs_len, hn], fun _ => ⟨g, 0, rfl, kb_lt h, fun j u hu => by
    have hj : j < M.length := by
      have := (List.getElem?_eq_some_iff.1 hu).1
      rwa [ivs_len] at this
    rw [Nat.zero_add, h.cell hj, ← hu, ivs, List.getElem?_map, List.getElem?_eq_getElem hj, getD_at hj]
    rfl⟩⟩
/-- What is ranked. -/
def RankOut (ms : List Mr) (w : World) (e : Ending) (w' : World) : Prop := ∃ (out : Value) (M : List Nat), e = .returned out ∧ M.Perm (List.range ms.length) ∧ Srt (ltM ms) M ∧ RowOf w' out ms.length (ivs M) ∧ Below w.heap.size w w'
theorem rank_rel {k : Nat} {wb wr w1 : World} {u v' : Value} {o : Obj} (hown : wr.ownsRow wb.heap.size 3 1 u k (ivs (List.range k))) (hnx : Below wb.heap.size wb wr)
    (hown' : w1.ownsRow wb.heap.size 3 1 v' (k + 1) (ivs (List.range k) ++ [.int .i64 (k : Int)])) (hgrow : (wr.alloc o).grownBy w1 u.ownBlock) :
    w1.ownsRow wb.heap.size 3 1 v' (k + 1) (ivs (List.range (k + 1))) ∧ Below wb.heap.size wb w1 := by
  have hs := hnx.size
  exact ⟨by rw [ivs_next]; exact hown', (hnx.alloc hs o).grown hgrow (by simp; omega) (fun j hj => (hown.lt j hj).1)⟩

set_option maxRecDepth 100000 in
set_option maxHeartbeats 2000000 in
theorem Rank_some (v : Value) (ms : List Mr) (w : World) (hM : MRow w v ms) (hF : Fit ms) (h0 : 0 < ms.length) (hl : ms.length ≤ 30) :
    Calls Try.prog 22 #[v] w (RankOut ms w) := by
  obtain ⟨i0, hi, hz0, hz1, hz2⟩ := info_parts infoI
  obtain ⟨A, cap, rfl, _⟩ := id hM
  have HM := Lib.hid hM
  have HF := Lib.hid hF
  obtain ⟨n, hn⟩ : ∃ n, ms.length = n := ⟨_, rfl⟩
  rw [hn] at h0 hl
  have HN := Lib.hid hn
  rw [hn] at HM ⊢
  clear hM hF hn
  go_enter Try.func22, Try.ntmps22
  go_wp2
  obtain ⟨wb, hwb⟩ : ∃ wb : World, wb = w.alloc (.cells #[.slice A n cap] 37) := ⟨_, rfl⟩
  have HB := Lib.hid (show wb.heap[w.heap.size]? = some (.cells #[.slice A n cap] 37) by rw [hwb]; exact kb_new rfl _)
  have HW := Lib.hid (show Below w.heap.size w wb by rw [hwb]; exact bl_alloc (Below.refl _ _) _)
  have hsz : w.heap.size < wb.heap.size := kb_lt HB.out
  rw [← hwb]
  clear hwb
  go_loopw [2, 3, 6, 7, 8, 9, 10, 11, 12, 13] (fun s2 _ s6 _ _ _ _ _ _ _ wr => ∃ k : Nat, k ≤ n ∧ s6 = .int .i64 k ∧ Hid (wr.ownsRow wb.heap.size 3 1 s2 k (ivs (List.range k))) ∧ Below wb.heap.size wb wr) (fun _ _ s6 _ _ _ _ _ _ _ _ => n - (intOf s6).toNat)
  case atStart => exact ⟨0, by omega, rfl, World.ownsRow_nil _ _ _ _, Below.refl _ _⟩
  case round =>
    obtain ⟨k, hk, rfl, hown, hnx⟩ := hrel
    by_cases hlt : k < n
    · have ho := hown.out
      go_wp2_with (at_builtin; refine wpList_append_own _ rfl _ _ 35 rfl wb.heap.size 3 i0 (.int .i64 0) 1 8 Try.underlying35 hi hz0 hz1 hz2 rfl (by decide) _ _ _ rfl (ho.alloc _) ⟨wr.heap.size, 0, none⟩ 1 1 [.int .i64 (k : Int)] rfl rfl ?c1 ?c2 ?c3 ?c4 ?c5 ?_)
      case c1 =>
        intro j u hj
        match j, hj with
        | 0, hj =>
          simp at hj
          subst hj
          simp [Addr.add]
      case c2 => intro u hu; rw [List.mem_singleton] at hu; subst hu; rfl
      case c3 => unfold maxLen; omega
      case c4 => omega
      case c5 => have := hnx.size; simp; omega
      · intro v' w1 hown' hgrow _
        have R := rank_rel ho hnx hown' hgrow
        have R1 := Lib.hid R.1
        have R2 := R.2
        clear hown' hgrow hown hnx ho R
        go_wp2
        go_roundw
        case rel => exact ⟨k + 1, by omega, by go_num, R1.out, R2⟩
        case measure => simp [intOf]; omega
    · obtain rfl : k = n := by omega
      obtain ⟨g, cg, rest, hs2, hg, hra⟩ := rowAt_own hown.out h0
      subst hs2
      have HRA := Lib.hid hra
      clear hra
      have hMw := Lib.hid (HM.out.below (bl_then HW.out hnx))
      have hBw := Lib.hid (kb_below hnx HB.out)
      have hBel := bl_then HW.out hnx
      have hval : (Value.slice A k cap).ownBlock ≠ some g := by
        obtain ⟨A', c', e, hr⟩ := HM.out
        obtain ⟨b, off, rfl, hb, _⟩ := hr (by have := HN.out; omega)
        have e' : A = some ⟨b, off, none⟩ := by injection e
        rw [e']
        intro h
        have : b = g := by simpa [Value.ownBlock] using h
        omega
      have HV := Lib.hid hval
      clear hval hown
      go_wp2_with fail
      obtain ⟨J, hJ⟩ : ∃ J : World → Prop, ∀ W, J W ↔ (W.heap[w.heap.size]? = some (.cells #[.slice A k cap] 37) ∧ MRow W (.slice A k cap) ms) := ⟨_, fun _ => Iff.rfl⟩
      have hC := cmp_merits (g := g) (lc := w.heap.size) (by omega) HV.out HF.out (by have := HN.out; omega) J hJ
      rw [HN.out] at hC
      have hJw := (hJ _).2 ⟨hBw.out, hMw.out⟩
      refine (sortStable_any g cg w.heap.size (cfM ms) (ltM ms) k J (ltM_strict HF.out) ⟨hC.1, hC.2⟩ (fun x y h _ => ltM_up h) rest _ hl HRA.out hJw).mono ?_
      rintro e w2 ⟨rfl, ⟨M, m1, m2, m3⟩, o2⟩
      have M1 := Lib.hid m1
      have M2 := Lib.hid m2
      have M3 := Lib.hid (row_of_rowAt (cap := cg) m3 (m1.length_eq.trans List.length_range))
      have B2 := Lib.hid (show Below w.heap.size w w2 from (Keep.trans (S := fun b => b = g) (T := fun b => b = g) (Keep.of_below hBel) o2 (fun _ _ h => h)).below (Nat.le_refl _) (fun b h => by omega))
      clear m1 m2 m3 o2 hC hJ hJw
      go_wp2
      go_ret
      exact ⟨_, M, rfl, by rw [HN.out]; exact M1.out, M2.out, by rw [HN.out]; exact M3.out, B2.out⟩

set_option maxHeartbeats 1000000 in
theorem insertion_nil (f : Value) (w : World) : Calls Try.prog 52 #[.slice none 0 0, .int .i64 0, .int .i64 0, f] w fun e w' => e = .returned (.tuple #[]) ∧ w = w' := by
  go_enter Try.func52, Try.ntmps52
  go_wp2
  go_loopw [8, 9, 12, 13, 14, 15, 16, 17, 18, 19, 20, 21, 22, 23, 24, 25, 26, 27, 28, 29, 30, 31, 32, 33, 34, 35, 36, 37, 38, 39, 40, 41, 42, 43, 44, 45, 46, 47, 48, 49, 50, 51, 52] (fun s8 _ _ _ _ _ _ _ _ _ _ _ _ _ _ _ _ _ _ _ _ _ _ _ _ _ _ _ _ _ _ _ _ _ _ _ _ _ _ _ _ _ _ wr => s8 = .int .i64 1 ∧ w = wr) (fun _ _ _ _ _ _ _ _ _ _ _ _ _ _ _ _ _ _ _ _ _ _ _ _ _ _ _ _ _ _ _ _ _ _ _ _ _ _ _ _ _ _ _ _ => 0)
  case atStart => exact ⟨rfl, rfl⟩
  case round =>
    obtain ⟨rfl, rfl⟩ := hrel
    go_wp2
    go_end0
    exact ⟨rfl, rfl⟩
set_option maxRecDepth 100000 in
set_option maxHeartbeats 1000000 in
theorem stable_nil (f : Value) (w : World) : Calls Try.prog 44 #[.slice none 0 0, .int .i64 0, f] w fun e w' => e = .returned (.tuple #[]) ∧ w = w' := by
  go_enter Try.func44, Try.ntmps44
  go_wp2
  go_loopw [7, 8, 11, 12, 13, 14, 15, 16, 17, 18, 19, 20, 21, 22] (fun s7 s8 _ _ _ _ _ _ _ _ _ _ _ _ wr => s7 = .int .i64 0 ∧ s8 = .int .i64 20 ∧ w = wr) (fun _ _ _ _ _ _ _ _ _ _ _ _ _ _ _ => 0)
  case atStart => exact ⟨rfl, rfl, rfl⟩
  case round =>
    obtain ⟨rfl, rfl, rfl⟩ := hrel
    go_wp2_with (go_at_call 52; (with_reducible refine (insertion_nil _ _).mono ?_); rintro e w1 ⟨rfl, rfl⟩)
    go_loopw [6, 7, 8, 9, 28, 29, 30, 31, 32, 33, 34, 35, 36, 37, 38, 39, 40, 41, 42, 43, 44, 45, 46, 47, 48, 49, 50, 51, 52, 53, 54, 55, 56, 57, 58, 59, 60, 61, 62] (fun s6 _ _ _ _ _ _ _ _ _ _ _ _ _ _ _ _ _ _ _ _ _ _ _ _ _ _ _ _ _ _ _ _ _ _ _ _ _ _ wr => s6 = .int .i64 20 ∧ w = wr) (fun _ _ _ _ _ _ _ _ _ _ _ _ _ _ _ _ _ _ _ _ _ _ _ _ _ _ _ _ _ _ _ _ _ _ _ _ _ _ _ _ => 0)
    case atStart => exact ⟨rfl, rfl⟩
    case round =>
      obtain ⟨rfl, rfl⟩ := hrel
      go_wp2_with fail
      go_end0
      exact ⟨rfl, rfl⟩
set_option maxHeartbeats 1000000 in
theorem sortStable_nil (f : Value) (w : World) : Calls Try.prog 38 #[.slice none 0 0, f] w fun e w' => e = .returned (.tuple #[]) ∧ w = w' := by
  go_enter Try.func38, Try.ntmps38
  go_wp2_with (go_at_call 44; (with_reducible refine (stable_nil _ _).mono ?_); rintro e w1 ⟨rfl, rfl⟩)
  go_end0
  exact ⟨rfl, rfl⟩

set_option maxRecDepth 100000 in
set_option maxHeartbeats 2000000 in
theorem Rank_none (A : Option Addr) (cap : Nat) (w : World) :
    Calls Try.prog 22 #[.slice A 0 cap] w (RankOut [] w) := by
  go_enter Try.func22, Try.ntmps22
  go_wp2
  go_loopw [2, 3, 6, 7, 8, 9, 10, 11, 12, 13] (fun s2 _ s6 _ _ _ _ _ _ _ wr => s2 = .slice none 0 0 ∧ s6 = .int .i64 0 ∧ Below w.heap.size w wr) (fun _ _ _ _ _ _ _ _ _ _ _ => 0)
  case atStart => exact ⟨rfl, rfl, by (repeat (with_reducible (first | exact Below.refl _ _ | assumption | refine bl_alloc ?_ _ | refine bl_drew ?_ | refine bl_drewN ?_ _ | (refine bl_set ?_ ?_ _; (focus (first | (simp; done) | (simp; omega) | omega))) | refine bl_then ?_ (by assumption))))⟩
  case round =>
    obtain ⟨rfl, rfl, hnx⟩ := hrel
    go_wp2_with (go_at_call 38; (with_reducible refine (sortStable_nil _ _).mono ?_); rintro e w1 ⟨rfl, rfl⟩)
    go_ret
    exact ⟨_, [], rfl, List.Perm.refl _, List.Pairwise.nil, RowOf.nil _ _, hnx⟩

theorem Rank_any (v : Value) (ms : List Mr) (w : World) (hM : MRow w v ms) (hF : Fit ms) (hl : ms.length ≤ 30) :
    Calls Try.prog 22 #[v] w (RankOut ms w) := by
  by_cases h : 0 < ms.length
  · exact Rank_some v ms w hM hF h hl
  · have h0 : ms = [] := List.eq_nil_of_length_eq_zero (by omega)
    subst h0
    obtain ⟨A, cap, rfl, _⟩ := hM
    exact Rank_none A cap w

/-- The best one. -/
def bestR (ms : List Mr) (r : Int) : Prop := (ms = [] ∧ r = -1) ∨ ∃ i, i < ms.length ∧ r = (i : Int) ∧ ∀ k, k < ms.length → k ≠ i → ltM ms i k = true
theorem head_best {ms : List Mr} {M : List Nat} (h0 : 0 < ms.length) (hp : M.Perm (List.range ms.length)) (hs : Srt (ltM ms) M) : bestR ms ((M.getD 0 0 : Nat) : Int) := by
  have hl : M.length = ms.length := by rw [hp.length_eq, List.length_range]
  cases M with
  | nil => simp at hl; omega
  | cons i M =>
    refine .inr ⟨i, List.mem_range.1 (hp.subset List.mem_cons_self), rfl, fun k hk hne => ?_⟩
    have : k ∈ i :: M := hp.symm.subset (List.mem_range.2 hk)
    rcases List.mem_cons.1 this with e | e
    · exact absurd e hne
    · exact (List.pairwise_cons.1 hs).1 k e
theorem best_unique {ms : List Mr} {r q : Int} (hF : Fit ms) (h : bestR ms r) (k : bestR ms q) : r = q := by
  rcases h with ⟨h1, h2⟩ | ⟨i, h1, h2, h3⟩ <;> rcases k with ⟨k1, k2⟩ | ⟨j, k1, k2, k3⟩
  · omega
  · subst h1; simp at k1
  · subst k1; simp at h1
  · by_cases e : i = j
    · omega
    · have a := h3 j k1 (fun x => e x.symm)
      have b := k3 i h1 e
      have := (ltM_strict hF).asym a
      rw [b] at this
      cases this
/-- What is told as the best one. -/
def BestOut (ms : List Mr) (w : World) (e : Ending) (w' : World) : Prop := ∃ r : Int, e = .returned (.int .i64 r) ∧ bestR ms r ∧ Below w.heap.size w w'

set_option maxHeartbeats 1000000 in
theorem Best_any (v : Value) (ms : List Mr) (w : World) (hM : MRow w v ms) (hF : Fit ms) (hl : ms.length ≤ 30) :
    Calls Try.prog 19 #[v] w (BestOut ms w) := by
  obtain ⟨A, cap, rfl, _⟩ := id hM
  have HM := Lib.hid hM
  have HF := Lib.hid hF
  by_cases h0 : ms.length = 0
  · have hms : ms = [] := List.eq_nil_of_length_eq_zero h0
    have HE := Lib.hid hms
    clear hM hF hms
    rw [h0]
    go_enter Try.func19, Try.ntmps19
    go_wp2
    go_ret
    exact ⟨_, rfl, .inl ⟨HE.out, rfl⟩, Below.refl _ _⟩
  · have hd : ((ms.length : Int) == 0) = false := beq_eq_false_iff_ne.2 (by omega)
    clear hM hF
    go_enter Try.func19, Try.ntmps19
    go_wp2_with fail
    refine (Rank_any _ ms _ HM.out HF.out hl).mono ?_
    rintro e w1 ⟨out, M, rfl, m1, m2, m3, b1⟩
    obtain ⟨A', c', rfl, r1, r2⟩ := m3
    obtain ⟨b, off, rfl, hb, hc⟩ := r2 (by omega)
    have hM0 : 0 < M.length := by rw [m1.length_eq, List.length_range]; omega
    have c0 := hc 0 (.int .i64 ((M.getD 0 0 : Nat) : Int)) (by rw [ivs, List.getElem?_map, List.getElem?_eq_getElem hM0, getD_at hM0]; rfl)
    rw [Nat.add_zero] at c0
    have HB := Lib.hid (head_best (by omega) m1 m2)
    have hn : 0 < ms.length := by omega
    clear m1 m2 hc r1 r2 hM0
    generalize M.getD 0 0 = i at *
    go_wp2
    go_ret
    exact ⟨_, rfl, HB.out, b1⟩
end Go.Proofs.Ytockdfhejbbbeaa
