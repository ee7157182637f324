/- The walks of package peers: the providers of a role, handed on one by one; the best one of them. -/
import Derived.Test.YtlnhofpjeinadaaPee1
import Derived.Test.YtlnhofpjeinadaaRangeN
namespace Go.Proofs.Ytlnhofpjeinadaa
set_option linter.unusedSimpArgs false
set_option linter.unusedVariables false
open Go.RowKit Go.Proofs.Ytlnhofpjeinadaa.Pc Go.Shelf BigFrame
attribute [local go_sem] run_store_float Oper.semAt_some cell_alloc_some frozen_alloc_some

def prN : Pr × Nat := (prZ, 0)
def enM (L : List Pr) (role : Int) (k : Nat) : Array Value := #[.int .i64 ((ofs L role).getD k prN).2, merV ((ofs L role).getD k prN).1]
/-- What the iterator may lean on. -/
def GoodM (q g : Nat) (L : List Pr) (role : Int) (c1 c2 : Nat) (J : Nat → World → Prop) : Prop :=
  (∀ k W W', J k W → Below W.heap.size W W' → J k W') ∧ ∀ k W, J k W → PP W q g L ∧ W.heap[c1]? = some (.cells #[.pointer (some ⟨q, 0, none⟩)] 22) ∧ W.heap[c2]? = some (.cells #[.int .i64 role] 3)

theorem filt_nextM (L : List (Pr × Nat)) (ask : Pr × Nat → Bool) (i : Nat) (r : Pr × Nat) (hr : L[i]? = some r) :
    (ask r = true → ((L.take (i + 1)).filter ask).length = ((L.take i).filter ask).length + 1 ∧ (L.filter ask)[((L.take i).filter ask).length]? = some r) ∧
    (ask r = false → ((L.take (i + 1)).filter ask).length = ((L.take i).filter ask).length) := by
  have h1 : L.take (i + 1) = L.take i ++ [r] := by rw [List.take_add_one, hr]; rfl
  refine ⟨fun h => ?_, fun h => ?_⟩
  · refine ⟨by rw [h1, List.filter_append, List.length_append, List.filter_cons, if_pos h]; rfl, ?_⟩
    have h2 : L = L.take i ++ r :: L.drop (i + 1) := by
      have hi : i < L.length := (List.getElem?_eq_some_iff.1 hr).1
      have := List.take_append_drop i L
      rw [List.drop_eq_getElem_cons hi, (List.getElem?_eq_some_iff.1 hr).2] at this
      exact this.symm
    have h3 : L.filter ask = (L.take i).filter ask ++ r :: (L.drop (i + 1)).filter ask := by
      conv => lhs; rw [h2]
      rw [List.filter_append, List.filter_cons, if_pos h]
    rw [h3, List.getElem?_append_right (Nat.le_refl _)]
    simp
  · rw [h1, List.filter_append, List.filter_cons, if_neg (by simp [h])]; simp
theorem idx_at {L : List Pr} {i : Nat} {x : Pr} (h : L[i]? = some x) : L.zipIdx[i]? = some (x, i) := by
  rw [List.getElem?_zipIdx, h]; simp

set_option maxHeartbeats 400000 in
theorem of_any (q : Nat) (role : Int) (w : World) :
    Calls Try.prog 31 #[.pointer (some ⟨q, 0, none⟩), .int .i64 role] w fun e w' => e = .returned (.func (.func 58) #[] #[.pointer (some ⟨w.heap.size, 0, none⟩), .pointer (some ⟨w.heap.size + 1, 0, none⟩)]) ∧
      (w.alloc (.cells #[.pointer (some ⟨q, 0, none⟩)] 22)).alloc (.cells #[.int .i64 role] 3) = w' := by
  go_enter Try.func31, Try.ntmps31
  go_wp2
  go_ret
  exact ⟨rfl, rfl⟩

set_option maxHeartbeats 1000000 in
theorem of1_ends (q g : Nat) (L : List Pr) (role : Int) (c1 c2 : Nat) (hL : L.length ≤ 1000) :
    SeqEnds Fence.wide 7 Try.prog 58 #[.pointer (some ⟨c1, 0, none⟩), .pointer (some ⟨c2, 0, none⟩)] (ofs L role).length (enM L role) (GoodM q g L role c1 c2) := fun l J W hG hY h0 => by
  obtain ⟨hg1, hg2⟩ := hG
  obtain ⟨F, B1, B2⟩ := hg2 0 W h0
  obtain ⟨cap, hf⟩ := F.st
  have k1 := kb_cell B1
  have k2 := kb_cell hf
  have HY := Lib.hid hY
  have H1 := Lib.hid hg1
  have H2 := Lib.hid hg2
  have H0 := Lib.hid h0
  obtain ⟨n, hn⟩ : ∃ n, L.length = n := ⟨_, rfl⟩
  have HN := Lib.hid hn
  rw [hn] at k2 hL
  clear hY hg1 hg2 h0 F B1 B2 hf hn
  refine callsIn_of_wp Try.func58 rfl trivial ?_ rfl
  simp only [Try.ntmps58, List.size_toArray, List.length_cons, List.length_nil, Nat.reduceAdd, Nat.reduceSub, Array.replicate_succ, Array.replicate_zero, List.push_toArray, List.append_toArray, List.nil_append, List.cons_append]
  gi_wp2_with fail
  gi_loopw [4, 5, 13, 14, 15, 16, 17, 18, 19, 20, 21, 22, 23, 24, 25, 26, 27, 28, 29, 30] (fun _ _ s13 _ _ _ _ _ _ _ _ _ _ _ _ _ _ _ _ _ wr => ∃ i : Nat, i ≤ n ∧ s13 = .int .i64 i ∧ J (((L.zipIdx).take i).filter (askR role)).length wr) (fun _ _ s13 _ _ _ _ _ _ _ _ _ _ _ _ _ _ _ _ _ _ => n - (intOf s13).toNat)
  case atStart => exact ⟨0, by omega, rfl, H0.out⟩
  case round =>
    obtain ⟨i, hi, rfl, hJ⟩ := hrel
    obtain ⟨F, B1, B2⟩ := H2.out _ _ hJ
    by_cases hlt : i < n
    · obtain ⟨x, hx⟩ : ∃ x, L[i]? = some x := ⟨_, List.getElem?_eq_getElem (by have := HN.out; omega)⟩
      obtain ⟨n1, n2⟩ := filt_nextM L.zipIdx (askR role) i _ (idx_at hx)
      have e0 := F.cell0 hx _ rfl
      have e1 := F.cell hx 1 _ rfl
      have e2 := F.cell hx 2 _ rfl
      have e3 := F.cell hx 3 _ rfl
      have D2 := kb_alloc B2 (.cells #[.int .i64 x.s, .float .f64 x.p, .int .i64 x.role, .int .i64 x.strikes] 71)
      have cD := kb_cell D2
      have N1 := Lib.hid n1
      have N2 := Lib.hid n2
      have HJ := Lib.hid hJ
      have hpl := kb_lt B2
      have hgl := F.ltg
      clear n1 n2 F hJ B1 k1 k2
      cases hask : x.role == role
      · have N2' := Lib.hid (N2.out hask)
        have hJ2 := Lib.hid (H1.out _ _ _ HJ.out (bl_alloc (Below.refl _ wr) (.cells #[.int .i64 x.s, .float .f64 x.p, .int .i64 x.role, .int .i64 x.strikes] 71)))
        clear B2 D2
        gi_wp2_with fail
        refine ⟨(fun f h => nomatch h), ?_⟩
        gi_wp2_with fail
        exact ⟨⟨i + 1, by omega, by go_num, by rw [N2'.out]; exact hJ2.out⟩, by simp [intOf]; omega⟩
      · obtain ⟨m1, m2⟩ := N1.out hask
        have hk : ((L.zipIdx.take i).filter (askR role)).length < (ofs L role).length := (List.getElem?_eq_some_iff.1 m2).1
        have hen : enM L role ((L.zipIdx.take i).filter (askR role)).length = #[.int .i64 i, .agg #[.int .i64 x.s, .float .f64 x.p]] := by unfold enM ofs; rw [List.getD, m2]; rfl
        have hJ2 := H1.out _ _ _ HJ.out (bl_alloc (Below.refl _ wr) (.cells #[.int .i64 x.s, .float .f64 x.p, .int .i64 x.role, .int .i64 x.strikes] 71))
        obtain ⟨fn, tmps, assign, body, hy, hR⟩ := HY.out _ _ hk hJ2
        rw [hen] at hy
        have M1 := Lib.hid m1
        clear m1 m2 hen hk B2 D2
        gi_wp2_with fail
        refine hR.mono ?_
        rintro e W' ⟨rfl, hJ'⟩
        gi_wp2_with fail
        exact ⟨⟨i + 1, by omega, by go_num, by rw [M1.out]; exact hJ'⟩, by simp [intOf]; omega⟩
    · obtain rfl : i = n := by omega
      clear B1 B2
      gi_wp2_with fail
      go_end0
      refine ⟨⟨_, rfl⟩, ?_⟩
      have hJ' := hJ
      rw [List.take_of_length_le (by rw [List.length_zipIdx]; have := HN.out; omega)] at hJ'
      exact hJ'
end Go.Proofs.Ytlnhofpjeinadaa
