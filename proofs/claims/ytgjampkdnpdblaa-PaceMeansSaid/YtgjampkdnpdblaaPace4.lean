/- PaceMeans, first part: the law's paces, an append loop over what came in. -/
import Derived.Test.YtgjampkdnpdblaaPace3
import Derived.WalkKit
namespace Go.Proofs.Ytgjampkdnpdblaa
open Go.RowKit Go.Proofs.Ytgjampkdnpdblaa.Pc

theorem infoF : (Try.prog.info? 23).map (fun i => (i.zero, i.size, i.bytes)) = some (some (.float .f64 0), 1, 8) := by kernel_rfl

/-- The paces of bits, as values. -/
def pcs (zs : List Int) : List Value := zs.map fun z => .float .f64 z.toNat
theorem pcs_len (zs : List Int) : (pcs zs).length = zs.length := by simp [pcs]
theorem pcs_next (zs : List Int) (k : Nat) (hk : k < zs.length) : pcs (zs.take (k + 1)) = pcs (zs.take k) ++ [.float .f64 (zs.getD k 0).toNat] := by
  have h : zs.take (k + 1) = zs.take k ++ [zs.getD k 0] := by
    rw [List.take_add_one, List.getElem?_eq_getElem hk, List.getD, List.getElem?_eq_getElem hk]; rfl
  rw [h, pcs, List.map_append]
  rfl

theorem rel_next {k : Nat} {zs : List Int} {w wr w1 : World} {u v' : Value} {o : Obj} (hk : k < zs.length)
    (hown : wr.ownsRow w.heap.size 23 1 u k (pcs (zs.take k))) (hnx : Below w.heap.size w wr)
    (hown' : w1.ownsRow w.heap.size 23 1 v' (k + 1) (pcs (zs.take k) ++ [.float .f64 (zs.getD k 0).toNat])) (hgrow : (wr.alloc o).grownBy w1 u.ownBlock) :
    w1.ownsRow w.heap.size 23 1 v' (k + 1) (pcs (zs.take (k + 1))) ∧ Below w.heap.size w w1 := by
  have hs := hnx.size
  exact ⟨by rw [pcs_next zs k hk]; exact hown', (hnx.alloc hs o).grown hgrow (by simp; omega) (fun j hj => (hown.lt j hj).1)⟩

set_option maxHeartbeats 400000 in
theorem paces_some (b off cap : Nat) (zs : List Int) (w : World) (hl : zs.length ≤ 60) (hb : b < w.heap.size)
    (hc : ∀ k, k < zs.length → w.cell? ⟨b, off + k, none⟩ = some (.int .u64 (zs.getD k 0))) :
    Calls Try.prog 12 #[.slice (some ⟨b, off, none⟩) zs.length cap] w fun e w' => ∃ v, e = .returned v ∧ w'.ownsRow w.heap.size 23 1 v zs.length (pcs zs) ∧ Below w.heap.size w w' := by
  obtain ⟨i0, hi, hz0, hz1, hz2⟩ := info_parts infoF
  go_enter Try.func12, Try.ntmps12
  go_wp2
  go_loopw [3, 4, 5, 6, 7, 8, 9, 10, 11, 12, 13, 14, 15, 16, 17, 18] (fun v i _ _ _ _ _ _ _ _ _ _ _ _ _ _ wr => ∃ k : Nat, k ≤ zs.length ∧ i = .int .i64 k ∧ wr.ownsRow w.heap.size 23 1 v k (pcs (zs.take k)) ∧ Below w.heap.size w wr)
    (fun _ i _ _ _ _ _ _ _ _ _ _ _ _ _ _ _ => zs.length - (intOf i).toNat)
  case atStart => exact ⟨0, Nat.zero_le _, rfl, World.ownsRow_nil _ _ _ _, Below.refl _ _⟩
  case round =>
    obtain ⟨k, hk, rfl, hown, hnx⟩ := hrel
    have hcx : k < zs.length → wr.cell? ⟨b, off + k, none⟩ = some (.int .u64 (zs.getD k 0)) := fun h => (hnx.cell (by exact hb)).trans (hc k h)
    have hc' := Lib.hid hc
    clear hc
    by_cases hlt : k < zs.length
    · have hcell := hcx hlt
      clear hcx
      go_wp2_with (first
        | (go_at_call 5; (with_reducible refine (of_any _ _).mono ?_); rintro e w1 ⟨rfl, rfl⟩)
        | (at_builtin; refine wpList_append_own _ rfl _ _ 31 rfl w.heap.size 23 i0 (.float .f64 0) 1 8 Try.underlying31 hi hz0 hz1 hz2 rfl (by decide) _ _ _ rfl (hown.alloc _) ⟨wr.heap.size, 0, none⟩ 1 1 [.float .f64 (zs.getD k 0).toNat] rfl rfl ?c1 ?c2 ?c3 ?c4 ?c5 ?_))
      case c1 =>
        intro j u hj
        match j, hj with
        | 0, hj =>
          simp at hj
          subst hj
          simp [Addr.add, List.getElem?_eq_getElem hlt]
      case c2 => intro u hu; rw [List.mem_singleton] at hu; subst hu; rfl
      case c3 => unfold maxLen; omega
      case c4 => omega
      case c5 => have := hnx.size; simp; omega
      · intro v' w1 hown' hgrow _
        have hg : zs.getD k 0 = zs[k] := by rw [List.getD, List.getElem?_eq_getElem hlt]; rfl
        rw [← hg] at hown' hgrow
        have R := rel_next hlt hown hnx hown' hgrow
        clear hown' hgrow hown hnx hcell
        go_wp2
        go_roundw
        case rel => exact ⟨k + 1, by omega, by go_num, R.1, R.2⟩
        case measure => simp [intOf]; omega
    · obtain rfl : k = zs.length := by omega
      clear hcx
      go_wp2
      go_ret
      exact ⟨_, rfl, by simpa using hown, hnx⟩

set_option maxHeartbeats 400000 in
theorem paces_none (w : World) :
    Calls Try.prog 12 #[.slice none 0 0] w fun e w' => ∃ v, e = .returned v ∧ w'.ownsRow w.heap.size 23 1 v 0 (pcs []) ∧ Below w.heap.size w w' := by
  go_enter Try.func12, Try.ntmps12
  go_wp2
  go_loopw [3, 4, 5, 6, 7, 8, 9, 10, 11, 12, 13, 14, 15, 16, 17, 18] (fun v i _ _ _ _ _ _ _ _ _ _ _ _ _ _ wr => v = .slice none 0 0 ∧ i = .int .i64 0 ∧ Below w.heap.size w wr)
    (fun _ i _ _ _ _ _ _ _ _ _ _ _ _ _ _ _ => 0)
  case atStart => exact ⟨rfl, rfl, Below.refl _ _⟩
  case round =>
    obtain ⟨rfl, rfl, hnx⟩ := hrel
    go_wp2
    go_ret
    exact ⟨_, rfl, World.ownsRow_nil _ _ _ _, hnx⟩
end Go.Proofs.Ytgjampkdnpdblaa
