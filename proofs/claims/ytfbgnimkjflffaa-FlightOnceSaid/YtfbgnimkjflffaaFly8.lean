/- The walks of package flight: the requests that are asked for, handed on one by one. -/
import Derived.Test.YtfbgnimkjflffaaFly7
import Derived.Outline
namespace Go.Proofs.Ytfbgnimkjflffaa
open Go.RowKit Go.Maps Go.Shelf

abbrev Asks (A : Nat) (who : Int) (ask : Rq → Bool) : Prop := ∀ (r : Rq) (W : World), Calls Try.prog A #[.int .i64 who, r.val] W fun e w' => e = .returned (.bool (ask r)) ∧ Below W.heap.size W w'
def enR (ask : Rq → Bool) (L : List Rq) (k : Nat) : Array Value := #[((L.filter ask).getD k ⟨0, 0, 0, 0, false⟩).val]

def GoodF (B p m : Nat) (n : Int) (s : Value) (L : List Rq) (A : Nat) (who : Int) (c1 c2 : Nat) (J : Nat → World → Prop) : Prop :=
  (∀ k W W', J k W → Below W.heap.size W W' → J k W') ∧ ∀ k W, J k W → Fl W B p m n s L ∧ W.heap[c1]? = some (.cells #[.pointer (some ⟨p, 0, none⟩)] 22) ∧ W.heap[c2]? = some (.cells #[.func (.func A) #[.int .i64 who] #[]] 60)

theorem filt_next (ask : Rq → Bool) (L : List Rq) (i : Nat) (r : Rq) (hr : L[i]? = some r) :
    (ask r = true → ((L.take (i + 1)).filter ask).length = ((L.take i).filter ask).length + 1 ∧ (L.filter ask)[((L.take i).filter ask).length]? = some r) ∧
    (ask r = false → ((L.take (i + 1)).filter ask).length = ((L.take i).filter ask).length) := by
  have h1 : L.take (i + 1) = L.take i ++ [r] := by rw [List.take_add_one, hr]; rfl
  refine ⟨fun h => ?_, fun h => ?_⟩
  · refine ⟨by rw [h1, List.filter_append, List.length_append, List.filter_cons, if_pos h]; rfl, ?_⟩
    have h2 : L = L.take i ++ r :: L.drop (i + 1) := by
      have hi : i < L.length := (List.getElem?_eq_some_iff.1 hr).1
      have := List.take_append_drop i L
      rw [List.drop_eq_getElem_cons hi, (List.getElem?_eq_some_iff.1 hr).2] at this
      exact this.symm
    have h3 : L.filter ask = (L.take i).filter ask ++ r :: (L.drop (i + 1)).filter ask := by
      conv => lhs; rw [h2]
      rw [List.filter_append, List.filter_cons, if_pos h]
    rw [h3, List.getElem?_append_right (Nat.le_refl _)]
    simp
  · rw [h1, List.filter_append, List.filter_cons, if_neg (by simp [h])]; simp

set_option maxHeartbeats 1000000 in
theorem some1_ends (B p m A : Nat) (n who : Int) (s : Value) (L : List Rq) (ask : Rq → Bool) (hA : Asks A who ask) (eA : ∀ args w, (callFunc A args).run Try.prog w = .ok (.enter A args) w) (c1 c2 : Nat) (hL : L.length ≤ 1000) :
    SeqEnds Fence.wide 7 Try.prog 26 #[.pointer (some ⟨c1, 0, none⟩), .pointer (some ⟨c2, 0, none⟩)] (L.filter ask).length (enR ask L) (GoodF B p m n s L A who c1 c2) := fun l J W hG hY h0 => by
  obtain ⟨hg1, hg2⟩ := hG
  obtain ⟨F, B1, B2⟩ := hg2 0 W h0
  have hf := F.st
  obtain ⟨A0, cap, rfl⟩ := owns_slice F.row
  have k1 := kb_cell B1
  have k2 := kb_cell hf
  have HY := Lib.hid hY
  have H1 := Lib.hid hg1
  have H2 := Lib.hid hg2
  have H0 := Lib.hid h0
  have HN := Lib.hid ((callsIn_wide (n := 6)).2 (fnone_no p m n _ W hf))
  clear hY hg1 hg2 h0 F B1 B2
  refine callsIn_of_wp Try.func26 rfl trivial ?_ rfl
  simp only [Try.ntmps26, List.size_toArray, List.length_cons, List.length_nil, Nat.reduceAdd, Nat.reduceSub, Array.replicate_succ, Array.replicate_zero, List.push_toArray, List.append_toArray, List.nil_append, List.cons_append]
  gi_wp2_with fail
  refine ⟨trivial, (HN.out).mono ?_⟩
  rintro e w1 ⟨rfl, rfl⟩
  gi_wp2_with fail
  gi_loopw [5, 13, 14, 15, 16, 17, 18, 19, 20, 21, 22, 23, 24, 25, 26] (fun _ s13 _ _ _ _ _ _ _ _ _ _ _ _ _ wr => ∃ i : Nat, i ≤ L.length ∧ s13 = .int .i64 i ∧ J ((L.take i).filter ask).length wr) (fun _ s13 _ _ _ _ _ _ _ _ _ _ _ _ _ _ => L.length - (intOf s13).toNat)
  case atStart => exact ⟨0, by omega, rfl, H0.out⟩
  case round =>
    obtain ⟨i, hi, rfl, hJ⟩ := hrel
    obtain ⟨F, B1, B2⟩ := H2.out _ _ hJ
    by_cases hlt : i < L.length
    · obtain ⟨g, cap', cur, hsl, hh, _, hc⟩ := F.cur hlt
      simp only [Value.slice.injEq, true_and] at hsl
      obtain ⟨rfl, rfl⟩ := hsl
      obtain ⟨r, hr⟩ : ∃ r, L[i]? = some r := ⟨_, List.getElem?_eq_getElem hlt⟩
      obtain ⟨n1, n2⟩ := filt_next ask L i r hr
      have e0 := (kb_cell hh (i * 5)).trans (hc 0 r (by omega) hr)
      have e1 := (kb_cell hh (i * 5 + 1)).trans (hc 1 r (by omega) hr)
      have e2 := (kb_cell hh (i * 5 + 2)).trans (hc 2 r (by omega) hr)
      have e3 := (kb_cell hh (i * 5 + 3)).trans (hc 3 r (by omega) hr)
      have e4 := (kb_cell hh (i * 5 + 4)).trans (hc 4 r (by omega) hr)
      simp only [Rq.cells, List.getElem?_cons_zero, List.getElem?_cons_succ] at e0 e1 e2 e3 e4
      have D1 := kb_alloc B2 (.cells #[.int .i64 r.id, .int .i64 r.to, .int .i64 r.h, .int .i64 r.at_, .bool r.op] 29)
      have cD := kb_cell D1
      have D5 : (wr.alloc (.cells #[.int .i64 r.id, .int .i64 r.to, .int .i64 r.h, .int .i64 r.at_, .bool r.op] 29)).heap[wr.heap.size]? = some _ := kb_new rfl _
      have H5 := Lib.hid D5
      clear D5
      have hpl := kb_lt B2
      have hAr := Lib.hid (hA r)
      have HV := Lib.hid (show (Value.agg #[.int .i64 r.id, .int .i64 r.to, .int .i64 r.h, .int .i64 r.at_, .bool r.op]) = r.val from rfl)
      have N1 := Lib.hid n1
      have N2 := Lib.hid n2
      have HJ := Lib.hid hJ
      clear hc hr n1 n2 F hJ B1 k1 k2 
      gi_wp2_with fail
      rw [HV.out]
      refine ⟨trivial, ((callsIn_wide (n := 6)).2 (hAr.out _)).mono ?_⟩
      rintro e w2 ⟨rfl, hb2⟩
      have hJ2 := H1.out _ _ w2 HJ.out (bl_then (bl_alloc (Below.refl _ _) _) hb2)
      cases hask : ask r
      · have N2' := Lib.hid (N2.out hask)
        have HJ2 := Lib.hid hJ2
        clear hask hJ2 cD B2 D1
        gi_wp2_with fail
        refine ⟨(fun f h => nomatch h), ?_⟩
        gi_wp2_with fail
        exact ⟨⟨i + 1, by omega, by go_num, by rw [N2'.out]; exact HJ2.out⟩, by simp [intOf]; omega⟩
      · obtain ⟨m1, m2⟩ := N1.out hask
        have hk : ((L.take i).filter ask).length < (L.filter ask).length := (List.getElem?_eq_some_iff.1 m2).1
        have cD2 := kb_cell (kb_below hb2 H5.out)
        have hen : enR ask L ((L.take i).filter ask).length = #[r.val] := by unfold enR; rw [List.getD, m2]; rfl
        rw [← HV.out] at hen
        obtain ⟨fn, tmps, assign, body, hy, hR⟩ := HY.out _ w2 hk hJ2
        rw [hen] at hy
        have M1 := Lib.hid m1
        clear hask hJ2 cD B2 D1 m1 m2 hen hk e0 e1 e2 e3 e4
        gi_wp2_with fail
        refine hR.mono ?_
        rintro e W' ⟨rfl, hJ'⟩
        gi_wp2_with fail
        exact ⟨⟨i + 1, by omega, by go_num, by rw [M1.out]; exact hJ'⟩, by simp [intOf]; omega⟩
    · obtain rfl : i = L.length := by omega
      clear B1 B2
      gi_wp2_with fail
      go_end0
      exact ⟨⟨_, rfl⟩, by simpa using hJ⟩
end Go.Proofs.Ytfbgnimkjflffaa
