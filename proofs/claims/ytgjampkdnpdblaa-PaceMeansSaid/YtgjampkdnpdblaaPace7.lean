/- PaceMeans, fourth part: no paces; the contracts over a slice that owns its row. -/
import Derived.Test.YtgjampkdnpdblaaPace6
namespace Go.Proofs.Ytgjampkdnpdblaa
open Go.RowKit Go.Proofs.Ytgjampkdnpdblaa.Pc

set_option maxHeartbeats 400000 in
theorem rMean_none (w : World) : Calls Try.prog 14 #[.slice none 0 0] w (PacePost (foldS theNaN []) w) := by
  have hr : ∀ W : World, (callFunc 18 #[.int .u64 9221120237041090560]).run Try.prog W = .ok (.value (.float .f64 theNaN)) W := run_from 9221120237041090560
  go_enter Try.func14, Try.ntmps14
  go_wp2
  clear hr
  go_loopw [3, 4, 6, 7, 8, 9, 10, 11, 12, 13, 14, 15, 16, 17] (fun v i _ _ _ _ _ _ _ _ _ _ _ _ wr => i = .int .i64 0 ∧ v = .float .f64 theNaN ∧ Below w.heap.size w wr) (fun _ _ _ _ _ _ _ _ _ _ _ _ _ _ _ => 0)
  case atStart => exact ⟨rfl, rfl, Below.refl _ _⟩
  case round =>
    obtain ⟨rfl, rfl, hnx⟩ := hrel
    go_wp2
    go_ret
    exact ⟨theNaN, rfl, rfl, by decide, hnx⟩

set_option maxHeartbeats 400000 in
theorem fold_none (m : Nat) (w : World) (hm : m < 18446744073709551616) : Calls Try.prog 28 #[.slice none 0 0, .float .f64 m, .func (.func 9) #[] #[]] w (PacePost (foldS m []) w) := by
  go_enter Try.func28, Try.ntmps28
  go_wp2
  go_loopw [1, 8, 11, 12, 13, 14, 15, 16, 17, 18, 19] (fun v _ i _ _ _ _ _ _ _ _ wr => i = .int .i64 0 ∧ v = .float .f64 m ∧ Below w.heap.size w wr) (fun _ _ _ _ _ _ _ _ _ _ _ _ => 0)
  case atStart => exact ⟨rfl, rfl, Below.refl _ _⟩
  case round =>
    obtain ⟨rfl, rfl, hnx⟩ := hrel
    go_wp2
    go_ret
    exact ⟨m, rfl, rfl, hm, hnx⟩

set_option maxHeartbeats 400000 in
theorem Mean_none (w : World) : Calls Try.prog 13 #[.slice none 0 0] w (PacePost (foldS theNaN []) w) := by
  go_enter Try.func13, Try.ntmps13
  go_wp2_with (go_at_call 25; (with_reducible refine (NaN_any _).mono ?_); rintro e w1 ⟨rfl, rfl⟩)
  refine (fold_none 9221120237041090561 _ (by decide)).mono ?_
  rintro e w2 ⟨r2, rfl, h1, h2, h3⟩
  have H1 := Lib.hid h1
  clear h1
  go_wp2
  go_ret
  exact ⟨r2, rfl, H1.out.trans (foldS_canon [] (by decide +kernel)), h2, h3⟩

set_option maxHeartbeats 400000 in
theorem Least_none (w : World) : Calls Try.prog 15 #[.slice none 0 0] w fun e w' => e = .returned (.int .i64 (-1)) ∧ Below w.heap.size w w' := by
  go_enter Try.func15, Try.ntmps15
  go_wp2
  go_loopw [3, 4, 5, 8, 9, 10, 11, 12, 13, 14, 15, 16, 17, 18, 19, 20, 21, 22, 23, 24, 25] (fun v _ _ i _ _ _ _ _ _ _ _ _ _ _ _ _ _ _ _ _ wr => i = .int .i64 0 ∧ v = .int .i64 (-1) ∧ Below w.heap.size w wr) (fun _ _ _ _ _ _ _ _ _ _ _ _ _ _ _ _ _ _ _ _ _ _ => 0)
  case atStart => exact ⟨rfl, rfl, Below.refl _ _⟩
  case round =>
    obtain ⟨rfl, rfl, hnx⟩ := hrel
    go_wp2
    go_ret
    exact ⟨rfl, hnx⟩

set_option maxHeartbeats 400000 in
theorem rLeast_none (w : World) : Calls Try.prog 16 #[.slice none 0 0] w fun e w' => e = .returned (.int .i64 (-1)) ∧ Below w.heap.size w w' := by
  go_enter Try.func16, Try.ntmps16
  go_wp2
  go_loopw [3, 4, 5, 6, 7, 8, 9, 10, 11, 12, 13, 14, 15, 16, 17, 18, 19, 20, 21, 22, 23, 24, 25] (fun v i _ _ _ _ _ _ _ _ _ _ _ _ _ _ _ _ _ _ _ _ _ wr => i = .int .i64 0 ∧ v = .int .i64 (-1) ∧ Below w.heap.size w wr) (fun _ _ _ _ _ _ _ _ _ _ _ _ _ _ _ _ _ _ _ _ _ _ _ _ => 0)
  case atStart => exact ⟨rfl, rfl, Below.refl _ _⟩
  case round =>
    obtain ⟨rfl, rfl, hnx⟩ := hrel
    go_wp2
    go_ret
    exact ⟨rfl, hnx⟩

/-- What owning a row of paces is good for. -/
theorem owns_open {w : World} {B n : Nat} {v : Value} {zs : List Int} (h : w.ownsRow B 23 1 v n (pcs zs)) :
    n = zs.length ∧ ((v = .slice none 0 0 ∧ zs = []) ∨ ∃ g cap, v = .slice (some ⟨g, 0, none⟩) (zs.map Int.toNat).length cap ∧ B ≤ g ∧ g < w.heap.size ∧
      ∀ k, k < (zs.map Int.toNat).length → w.cell? ⟨g, 0 + k, none⟩ = some (.float .f64 ((zs.map Int.toNat).getD k 0))) := by
  have hl := h.1
  rw [pcs_len] at hl
  have hn : n = zs.length := by omega
  refine ⟨hn, ?_⟩
  rcases h.2 with ⟨rfl, h0⟩ | ⟨g, cap, cur, rfl, hB, hh, h1, h2, h3, h4⟩
  · exact .inl ⟨rfl, List.eq_nil_of_length_eq_zero (by omega)⟩
  · refine .inr ⟨g, cap, by rw [List.length_map, hn], hB, kb_lt hh, fun k hk => ?_⟩
    have hc := World.ownsRow.cells h (g := g) rfl k (.float .f64 ((zs.map Int.toNat).getD k 0)) (by
      rw [List.length_map] at hk
      simp [pcs, List.getElem?_eq_getElem hk])
    have ea : (⟨g, 0, none⟩ : Addr).add k = ⟨g, 0 + k, none⟩ := by cases k <;> simp [Addr.add]
    rwa [ea] at hc

/-- The bits of paces are 64. -/
def Small (zs : List Int) : Prop := zs.length ≤ 60 ∧ ∀ x ∈ zs.map Int.toNat, x < 18446744073709551616

theorem Mean_owns {w : World} {B n : Nat} {v : Value} {zs : List Int} (h : w.ownsRow B 23 1 v n (pcs zs)) (hs : Small zs) :
    Calls Try.prog 13 #[v] w (PacePost (foldS theNaN (zs.map Int.toNat)) w) := by
  obtain ⟨_, ⟨rfl, rfl⟩ | ⟨g, cap, rfl, _, hg, hc⟩⟩ := owns_open h
  · exact Mean_none w
  · exact Mean_some g 0 cap _ w (by rw [List.length_map]; exact hs.1) hg hs.2 hc
theorem rMean_owns {w : World} {B n : Nat} {v : Value} {zs : List Int} (h : w.ownsRow B 23 1 v n (pcs zs)) (hs : Small zs) :
    Calls Try.prog 14 #[v] w (PacePost (foldS theNaN (zs.map Int.toNat)) w) := by
  obtain ⟨_, ⟨rfl, rfl⟩ | ⟨g, cap, rfl, _, hg, hc⟩⟩ := owns_open h
  · exact rMean_none w
  · exact rMean_some g 0 cap _ w (by rw [List.length_map]; exact hs.1) hg hs.2 hc
theorem Least_owns {w : World} {B n : Nat} {v : Value} {zs : List Int} (h : w.ownsRow B 23 1 v n (pcs zs)) (hs : Small zs) :
    Calls Try.prog 15 #[v] w fun e w' => e = .returned (.int .i64 (lst (zs.map Int.toNat) (zs.map Int.toNat).length)) ∧ Below w.heap.size w w' := by
  obtain ⟨_, ⟨rfl, rfl⟩ | ⟨g, cap, rfl, _, hg, hc⟩⟩ := owns_open h
  · exact Least_none w
  · exact Least_some g 0 cap _ w (by rw [List.length_map]; exact hs.1) hg hs.2 hc
theorem rLeast_owns {w : World} {B n : Nat} {v : Value} {zs : List Int} (h : w.ownsRow B 23 1 v n (pcs zs)) (hs : Small zs) :
    Calls Try.prog 16 #[v] w fun e w' => e = .returned (.int .i64 (lst (zs.map Int.toNat) (zs.map Int.toNat).length)) ∧ Below w.heap.size w w' := by
  obtain ⟨_, ⟨rfl, rfl⟩ | ⟨g, cap, rfl, _, hg, hc⟩⟩ := owns_open h
  · exact rLeast_none w
  · exact rLeast_some g 0 cap _ w (by rw [List.length_map]; exact hs.1) hg hs.2 hc
end Go.Proofs.Ytgjampkdnpdblaa
