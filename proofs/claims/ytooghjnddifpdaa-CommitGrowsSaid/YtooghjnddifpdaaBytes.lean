/- Bytes: slices of bytes as lists; SameBytes, slices.Clone, OverBytes. -/
import Derived.Test.YtooghjnddifpdaaRow
import Derived.WalkKit
import Derived.Laws.BytesArg
import Derived.Shelf.Bytes.SlSmallAll
namespace Go.Proofs.Ytooghjnddifpdaa
open Go.RowKit

def u8v (c : UInt8) : Value := .int .u8 (c.toNat : Int)
def u8s (l : List UInt8) : List Value := l.map u8v
theorem u8s_len (l : List UInt8) : (u8s l).length = l.length := by simp [u8s]
theorem u8s_append (a b : List UInt8) : u8s (a ++ b) = u8s a ++ u8s b := by simp [u8s]
theorem u8s_one (l : List UInt8) : ∀ u ∈ u8s l, u.oneCell' = true := by
  intro u hu
  obtain ⟨c, _, rfl⟩ := List.mem_map.1 hu
  rfl
theorem u8s_take (l : List UInt8) (k : Nat) : (u8s l).take k = u8s (l.take k) := by simp [u8s, List.map_take]
theorem u8s_drop (l : List UInt8) (k : Nat) : (u8s l).drop k = u8s (l.drop k) := by simp [u8s, List.map_drop]
theorem u8s_get (l : List UInt8) (k : Nat) (h : k < l.length) : (u8s l)[k]? = some (u8v l[k]) := by simp [u8s, h]
theorem infoU : (Try.prog.info? 5).map (fun i => (i.zero, i.size, i.bytes)) = some (some (.int .u8 0), 1, 1) := by kernel_rfl

/-- A slice of bytes that reads as l. -/
abbrev BytesOf (w : World) (v : Value) (l : List UInt8) : Prop := RowOf w v l.length (u8s l)

/-- The string of bytes. -/
def strB (l : List UInt8) : ByteArray := ⟨l.toArray⟩
theorem strB_inj {a b : List UInt8} (h : strB a = strB b) : a = b := by
  have := congrArg ByteArray.data h
  simpa [strB] using this
theorem strB_eq (a b : List UInt8) : ((strB a).toList == (strB b).toList) = (a == b) := by
  rw [ByteArray.toList_eq, ByteArray.toList_eq]
  simp [strB]
theorem strNums_u8 (l : List UInt8) : strOfNums (l.map fun c => (c.toNat : Int)) = strB l := by
  simp only [strOfNums, strB, List.map_map]
  congr 2
  have : (fun n : Int => UInt8.ofNat n.toNat) ∘ (fun c : UInt8 => (c.toNat : Int)) = id := by funext c; simp
  rw [this, List.map_id]
theorem run_conv {w : World} {v : Value} {l : List UInt8} (h : BytesOf w v l) : (convert 58 9 v).run Try.prog w = .ok (.string (strB l)) w := by
  obtain ⟨A, c, rfl, _, hc⟩ := h
  rcases Nat.eq_zero_or_pos l.length with h0 | h0
  · obtain rfl : l = [] := List.eq_nil_of_length_eq_zero h0
    cases A with
    | none => exact run_convert_bytes_nil w _ _ Try.underlying58 Try.underlying5 0 c _ Try.underlying9
    | some ad =>
      have h := run_convert_bytes_string (P := Try.prog) w 58 9 5 (some ad) 0 c Try.underlying58 Try.underlying5 Try.underlying9
      rw [show ([] : List UInt8).length = 0 from rfl, h]
      simp [Conv.bytesToString, loadCells, loadCellsFrom, Sem.run_pure, strB]
      rfl
  · obtain ⟨b, off, rfl, _, hcell⟩ := hc h0
    have := run_convert_bytes_arg (P := Try.prog) w _ _ Try.underlying58 Try.underlying5 b off l.length c (l.map fun c => (c.toNat : Int)) (by simp) (fun i hi => by
      have e := hcell i (u8v l[i]) (u8s_get l i hi)
      rw [e]
      simp [u8v, List.getD, hi]) _ Try.underlying9
    rw [this, strNums_u8]

set_option maxHeartbeats 400000 in
theorem SameBytes_any {w : World} {u v : Value} {a b : List UInt8} (ha : BytesOf w u a) (hb : BytesOf w v b) :
    Calls Try.prog 36 #[u, v] w fun e w' => e = .returned (.bool (a == b)) ∧ w = w' := by
  have e1 := run_conv ha
  have e2 := run_conv hb
  have h := strB_eq a b
  obtain ⟨A, c, rfl⟩ := ha.form
  obtain ⟨A', c', rfl⟩ := hb.form
  have H := Lib.hid h
  clear h ha hb
  go_enter Try.func36, Try.ntmps36
  go_wp2
  go_ret
  exact ⟨ret_bool (by rw [← H.out]), rfl⟩

/-- What is made of bytes anew. -/
def NewBytes (w w' : World) (v : Value) (l : List UInt8) : Prop := w'.ownsRow w.heap.size 5 1 v l.length (u8s l) ∧ Below w.heap.size w w'
theorem NewBytes.bytes {w w' : World} {v : Value} {l : List UInt8} (h : NewBytes w w' v l) : BytesOf w' v l := RowOf.of_own h.1

theorem run_eql_bytes_nil (A : Option Addr) (n c : Nat) (W : World) : (binOp .eql 58 (.slice A n c) (.slice none 0 0)).run Try.prog W = .ok (.bool A.isNone) W :=
  Lib.run_eql_slice_nil W _ _ A n c 0 0 Try.underlying58
set_option maxHeartbeats 400000 in
theorem Clone_any {w : World} {v : Value} {l : List UInt8} (h : BytesOf w v l) (hl : l.length ≤ 1099511627776) :
    Calls Try.prog 78 #[v] w fun e w' => ∃ v', e = .returned v' ∧ NewBytes w w' v' l := by
  obtain ⟨A, c, rfl, h1, h2⟩ := h
  cases A with
  | none =>
    have h0 : l = [] := by
      rcases Nat.eq_zero_or_pos l.length with h0 | h0
      · exact List.eq_nil_of_length_eq_zero h0
      · obtain ⟨b, off, h, _⟩ := h2 h0; cases h
    subst h0
    have hq := fun W => run_eql_bytes_nil none 0 c W
    clear h1 h2 hl
    go_enter Try.func78, Try.ntmps78
    go_wp2
    go_ret
    exact ⟨_, rfl, World.ownsRow_nil _ _ _ _, Below.refl _ _⟩
  | some a =>
    have hR : BytesOf w (.slice (some a) l.length c) l := ⟨_, _, rfl, h1, h2⟩
    have HR := Lib.hid (hR.alloc (.cells #[] 5))
    obtain ⟨i0, hi, hz0, hz1, hz2⟩ := info_parts infoU
    have hn := owns_lit0 (w := w.alloc (.cells #[] 5)) (base := w.heap.size) (cap := 0) (kb_new rfl _) (Nat.le_refl _) rfl
    have hq := fun W => run_eql_bytes_nil (some a) l.length c W
    clear hR h1 h2
    go_enter Try.func78, Try.ntmps78
    go_wp2_with (at_builtin; refine wpList_append_row _ rfl _ _ 58 rfl w.heap.size 5 i0 (.int .u8 0) 1 Try.underlying58 hi hz0 hz1 hz2 rfl _ _ _ rfl hn _ _ _ rfl HR.out (u8s_one _) ?c3 ?c4 ?c5 ?_)
    case c3 => unfold maxLen; omega
    case c4 => omega
    case c5 => simp
    intro v' w1 hown' hgrow _ _
    have b1 : Below w.heap.size w w1 := (bl_alloc (Below.refl _ _) _).grown hgrow (by simp) (fun j hj => by simp [Value.ownBlock] at hj; omega)
    obtain ⟨A', cap', hv'⟩ := owns_slice0 hown'
    subst hv'
    clear hgrow
    go_wp2
    go_ret
    exact ⟨_, rfl, hown', b1⟩
end Go.Proofs.Ytooghjnddifpdaa
