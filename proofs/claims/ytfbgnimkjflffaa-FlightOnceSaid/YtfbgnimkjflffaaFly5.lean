/- The walks of package flight: Ask of something new. -/
import Derived.Test.YtfbgnimkjflffaaFly4
import Derived.Outline
namespace Go.Proofs.Ytfbgnimkjflffaa
open Go.RowKit Go.Maps

theorem owns_slice {w : World} {B e size n : Nat} {v : Value} {xs : List Value} (h : w.ownsRow B e size v n xs) : ∃ A cap, v = .slice A n cap := by
  rcases h.2 with ⟨rfl, rfl⟩ | ⟨g, cap, cur, rfl, _⟩
  · exact ⟨_, _, rfl⟩
  · exact ⟨_, _, rfl⟩
theorem five_new (w : World) (v0 v1 v2 v3 v4 : Value) (t : TypeId) : ∀ j u, [v0, v1, v2, v3, v4][j]? = some u → (w.alloc (.cells #[v0, v1, v2, v3, v4] t)).cell? ((⟨w.heap.size, 0, none⟩ : Addr).add j) = some u := by
  intro j u hj
  have hb : (w.alloc (.cells #[v0, v1, v2, v3, v4] t)).heap[w.heap.size]? = some _ := kb_new rfl _
  match j, hj with
  | 0, hj => simpa [Addr.add, kb_cell hb] using hj
  | 1, hj => simpa [Addr.add, kb_cell hb] using hj
  | 2, hj => simpa [Addr.add, kb_cell hb] using hj
  | 3, hj => simpa [Addr.add, kb_cell hb] using hj
  | 4, hj => simpa [Addr.add, kb_cell hb] using hj

set_option maxRecDepth 100000 in
set_option maxHeartbeats 2000000 in
theorem fAsk_new (B p m : Nat) (n t h a : Int) (s : Value) (L : List Rq) (w : World) (F : Fl w B p m n s L) (hr : inR n t h a) (hL : L.length ≤ 1000)
    (hno : ∀ (i : Nat) r, L[i]? = some r → r.op = true → r.to = t → r.h = h → False) :
    Calls Try.prog 13 #[.pointer (some ⟨p, 0, none⟩), .int .i64 t, .int .i64 h, .int .i64 a] w fun e w' => e = .returned (.tuple #[.int .i64 ((L.length : Int) + 1), .bool true, .int .i64 0]) ∧
      ∃ s', Fl w' B p m n s' (L ++ [⟨(L.length : Int) + 1, t, h, a, true⟩]) ∧ Keep (FlS p m s) w w' ∧ (s'.ownBlock = s.ownBlock ∨ ∃ b, w.heap.size ≤ b ∧ s'.ownBlock = some b) := by
  obtain ⟨r1, r2⟩ := inR_64 F.hi hr
  have hf := F.st
  obtain ⟨D, k, hown, hk, hS⟩ := F.map
  have hK := kl_of r1 r2
  have hhas : Maps.has D (kl t h) = false := by
    rcases hS.2 t h r1 r2 with ⟨i, q, h1, h2, h3, h4, _⟩ | ⟨_, h2⟩
    · exact (hno i q h1 h2 h3 h4).elim
    · exact h2
  have HH := Lib.hid hhas
  obtain ⟨i0, hi, hz0, hz1, hz2⟩ := info_parts infoR
  obtain ⟨A, cap, hs⟩ := owns_slice F.row
  have hrow := F.row
  have HF := Lib.hid F
  have HS := Lib.hid hS
  have HN := Lib.hid hno
  have hm := F.ltm
  have hpl := F.ltp
  have hB : B ≤ w.heap.size := by have := F.lp; omega
  have hne : p ≠ m := by
    rintro rfl
    obtain ⟨es, clock, h1, _⟩ := hown
    rw [show w.heap[p]? = _ from hf] at h1
    cases h1
  have hHR := Lib.hid hr
  obtain ⟨q1, q2, q3, q4, q5, q6⟩ := hr
  subst hs
  have hdd : decide ((65536 : Int) ≤ (L.length : Int)) = false := by simp; omega
  clear hhas hS hno F
  have c := kb_cell hf
  go_enter Try.func13, Try.ntmps13
  go_wp2_with (first | (go_at_call 17; (with_reducible refine (fnone_no p m n _ _ hf).mono ?_); rintro e w1 ⟨rfl, rfl⟩) | (at_lookup; refine wpList_lookup_own_ok_int _ rfl _ _ 47 rfl 51 3 .i64 spotLaw Try.underlying47 Try.underlying3 (zeroI _) m k D rfl hown _ _ rfl hK ?_; intro x hat _; rw [HH.out]; clear hat; refine hold ?_))
  refine ⟨?_⟩
  go_wp2_with (at_builtin; refine wpList_append_own_at _ rfl _ _ 36 rfl B 29 i0 (.agg #[.int .i64 0, .int .i64 0, .int .i64 0, .int .i64 0, .bool false]) 5 40 Try.underlying36 hi hz0 hz1 hz2 rfl (by decide) _ _ _ rfl (hrow.alloc _) ⟨w.heap.size, 0, none⟩ 1 1 [.int .i64 ((L.length : Int) + 1), .int .i64 t, .int .i64 h, .int .i64 a, .bool true] rfl rfl (five_new _ _ _ _ _ _ _) ?c2 ?c3 ?c4 ?c5 ?_)
  case c2 => intro u hu; simp at hu; rcases hu with rfl | rfl | rfl | rfl | rfl <;> rfl
  case c3 => unfold maxLen; omega
  case c4 => omega
  case c5 => simp; omega
  intro v' w1 hown' hgrow _ hat
  obtain ⟨A', cap', hv'⟩ := owns_slice hown'
  subst hv'
  have hs1 := hgrow.size
  have hsp := own_ne hrow hf (by decide)
  have hsm := own_ne_map hrow hown
  have P1 : w1.heap[p]? = some _ := (hgrow.block p (by simp; omega) (fun e => hsp e.symm)).trans (kb_alloc hf _)
  have hm1 : w1.heap[m]? = w.heap[m]? := (hgrow.block m (by simp; omega) (fun e => hsm e.symm)).trans (Below.heap_alloc _ _ _ hm)
  have hown1 : (w1.setCell ⟨p, 1, none⟩ (.slice A' (L.length + 1) cap')).ownsMap Try.prog 51 (plainElem Try.prog 3) m k D := map_kb hown ((Below.heap_setCell _ _ _ _ hne.symm).trans hm1)
  have c1 := kb_cell P1
  have z1 := kb_frozen P1
  have hk2 : k < maxLen := by unfold maxLen; omega
  have HG := Lib.hid hgrow
  have HM := Lib.hid hm1
  clear c hgrow hm1
  go_wp2_with (at_mapUpdate; refine wpList_mapUpdate_own _ rfl _ _ _ 47 rfl 51 3 spotLaw Try.underlying47 _ m k D rfl hown1 hk2 _ _ (kl t h) rfl rfl hK (.lit (.int .i64 ((L.length : Int) + 1))) [] (plainElem_int Try.underlying3 (WalkArith.wf_i64 (by omega))) ?_; intro w2 hown2 hgrow2)
  go_ret3
  refine ⟨rfl, .slice A' (L.length + 1) cap', ?_, ?_, ?_⟩
  · have F := HF.out
    have hv : (Value.slice A' (L.length + 1) cap').ownBlock ≠ some m := by
      rcases hat with e | e
      · rw [e]; exact hsm
      · rw [e]; simp; omega
    have hvp : (Value.slice A' (L.length + 1) cap').ownBlock ≠ some p := by
      rcases hat with e | e
      · rw [e]; exact hsp
      · rw [e]; simp; omega
    have hp2 : w2.heap[p]? = _ := (hgrow2.block p (by simp; have := kb_lt P1; omega) (fun e => hne (by injection e))).trans (kb_set P1 (Value.slice A' (L.length + 1) cap'))
    refine ⟨hp2, ?_, ⟨_, k + 1, hown2, by simp; omega, says_put HS.out r1 r2 HH.out⟩, fine_put F.fine q1 q2 q3 q4 q5 q6 HN.out, F.lp, F.lm, F.lo, F.hi⟩
    rw [rqs_snoc, List.length_append]
    have hg1 : w1.grownBy (w1.setCell ⟨p, 1, none⟩ (.slice A' (L.length + 1) cap')) (some p) := ⟨rfl, rfl, rfl, by simp, fun b _ hb => Below.heap_setCell _ _ _ _ (fun e => hb (by rw [e]))⟩
    exact (hown'.kept hg1 (.inr hvp)).kept hgrow2 (.inr hv)
  · have k1 : Keep (FlS p m (.slice A L.length cap)) w w1 := ((Keep.refl _ w).alloc _).grown HG.out fun b _ hb => .inr (.inr hb)
    have k2 : Keep (FlS p m (.slice A L.length cap)) w (w1.setCell ⟨p, 1, none⟩ (.slice A' (L.length + 1) cap')) := k1.set (fun _ => .inl rfl) _
    exact k2.grown hgrow2 fun b _ hb => .inr (.inl (by injection hb with hb; exact hb.symm))
  · rcases hat with e | e
    · exact .inl e
    · exact .inr ⟨_, by simp, e⟩
end Go.Proofs.Ytfbgnimkjflffaa
