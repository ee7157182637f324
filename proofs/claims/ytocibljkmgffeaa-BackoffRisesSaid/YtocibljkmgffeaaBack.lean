/- The walks of package backoff: the waits, handed on for ever. -/
import Derived.Test.YtocibljkmgffeaaRange
import Derived.Test.YtocibljkmgffeaaBackP
namespace Go.Proofs.Ytocibljkmgffeaa
open Go.RowKit Go.Shelf Go.Proofs.Ytocibljkmgffeaa.Bk

abbrev encW (base cap : Int) (k : Nat) : Array Value := #[.int .i64 k, .int .i64 (wN base cap k)]
/-- What the iterator leans on: J abides a draw, speaks of at most B rounds, and knows what base and cap hold. -/
def GoodW (B : Nat) (base cap : Int) (c1 c2 : Nat) (J : Nat → World → Prop) : Prop :=
  (∀ k W, J k W → J k W.drew) ∧ (∀ k W, J k W → k ≤ B) ∧ ∀ k W, J k W → W.cell? ⟨c1, 0, none⟩ = some (.int .i64 base) ∧ W.cell? ⟨c2, 0, none⟩ = some (.int .i64 cap)

set_option maxHeartbeats 1000000 in
theorem waits1_goes (F : Fence) (n : Nat) (hf : F.fn 66) (hro : F.round = none) (hn : 1 ≤ n) (base cap : Int) (h1 : 1 ≤ base) (h2 : base ≤ cap) (h3 : cap ≤ 1048576) (c1 c2 B : Nat) (hB : B ≤ 1048576) :
    SeqGoes F n Try.prog 66 #[.pointer (some ⟨c1, 0, none⟩), .pointer (some ⟨c2, 0, none⟩)] (encW base cap) (GoodW B base cap c1 c2) := fun l J Jx W hG hY h0 => by
  obtain ⟨hg1, hg2, hg3⟩ := hG
  obtain ⟨hc1, hc2⟩ := hg3 0 W h0
  have hd := hg1 0 W h0
  have HY := Lib.hid hY
  have H2 := Lib.hid hg2
  have H3 := Lib.hid hg3
  clear hY hg1 hg2 hg3 h0
  refine callsIn_of_wp Try.func66 rfl hf ?_ hro
  simp only [Try.ntmps66, List.size_toArray, List.length_cons, List.length_nil, Nat.reduceAdd, Nat.reduceSub, Array.replicate_succ, Array.replicate_zero, List.push_toArray, List.append_toArray, List.nil_append, List.cons_append]
  gi_wp2
  gi_region
  all_goals
    gi_wp2
    gi_loopw [4, 5, 7, 8, 9, 10, 11, 12, 13, 14, 15, 16] (fun s4 s5 _ _ _ _ _ _ _ _ _ _ wr => ∃ k : Nat, s4 = .int .i64 k ∧ s5 = .int .i64 (wN base cap k) ∧ J k wr) (fun s4 _ _ _ _ _ _ _ _ _ _ _ _ => B + 1 - (intOf s4).toNat)
    case atStart => exact ⟨0, rfl, rfl, hd⟩
    case round =>
      obtain ⟨k, rfl, rfl, hJ⟩ := hrel
      obtain ⟨fn, tmps, assign, body, hy, hR⟩ := HY.out k wr hJ
      dsimp only [encW] at hy
      have hk := H2.out k wr hJ
      obtain ⟨w1, w2⟩ := wN_bd h1 h2 k
      gi_wp2
      refine hR.mono ?_
      rintro e W' (⟨rfl, hJ'⟩ | ⟨rfl, hJx'⟩)
      · obtain ⟨hc1', hc2'⟩ := H3.out _ _ hJ'
        have hk' := H2.out _ _ hJ'
        gi_wp2
        exact ⟨⟨k + 1, by go_num, by rw [wN_succ]; congr 1; omega, hJ'⟩, by simp [intOf]; omega⟩
      · gi_wp2
        go_end0
        exact ⟨⟨_, rfl⟩, k, hJx'⟩
end Go.Proofs.Ytocibljkmgffeaa
