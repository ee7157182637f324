/- Which of two hashes is less: the program's way. -/
import Derived.Test.YtmfajippoielhaaDoorBl10
import Derived.Test.YtmfajippoielhaaDoorBlQ
import Derived.Lib.BytesEntry
namespace Go.Proofs.YtmfajippoielhaaDoor
open Go.RowKit Go.Proofs.YtmfajippoielhaaDoor.Bl
set_option linter.unusedSimpArgs false
set_option linter.unusedVariables false
attribute [local go_sem] cell_alloc_some frozen_alloc_some

theorem bytes_nums (l : List UInt8) : Lib.bytesOf (l.map fun b => (b.toNat : Int)) = l := by
  induction l with
  | nil => rfl
  | cons a r ih => simp only [Lib.bytesOf, List.map_cons, List.map_map] at ih ⊢; rw [ih]; simp
theorem run_bytes_of {w : World} {v : Value} {l : List UInt8} (h : BytesOf w v l) : (Extern.Bytes.bytesOf v).run Tryd.prog w = .ok ⟨l.toArray⟩ w := by
  obtain ⟨A, c, rfl, _, hc⟩ := h
  cases A with
  | none =>
    have : l = [] := by
      rcases Nat.eq_zero_or_pos l.length with h | h
      · exact List.eq_nil_of_length_eq_zero h
      · obtain ⟨b, o, e, _⟩ := hc h; cases e
    subst this
    rfl
  | some a =>
    have hl := Lib.run_loadBytesX (P := Tryd.prog) w (l.map fun b => (b.toNat : Int)) a .empty (fun j x hj => by
      rw [List.getElem?_map] at hj
      obtain ⟨y, hy, rfl⟩ := Option.map_eq_some_iff.1 hj
      have hjl : j < l.length := (List.getElem?_eq_some_iff.1 hy).1
      obtain ⟨b, o, e, _, hh⟩ := hc (by omega)
      injection e with e
      subst e
      rw [addr_add, hh j (u8v y) (by simp [u8s, hy])]; rfl)
    rw [List.length_map, bytes_nums] at hl
    have he : (⟨ByteArray.empty.data ++ l.toArray⟩ : ByteArray) = ⟨l.toArray⟩ := by
      apply ByteArray.ext
      show (#[] : Array UInt8) ++ l.toArray = l.toArray
      simp
    rw [he] at hl
    exact hl
theorem run_cmp_b {w : World} {u v : Value} {a b : List UInt8} (ha : BytesOf w u a) (hb : BytesOf w v b) (hl : a.length = b.length) : (callFunc 52 #[u, v]).run Tryd.prog w = .ok (.value (.int .i64 (cmpL a b))) w := by
  rw [run_callFunc_extern Tryd.func52 (by kernel_rfl) (by kernel_rfl) (by kernel_rfl) (e := Extern.BytealgCompare.compare) (by kernel_rfl)]
  have h : (Extern.BytealgCompare.compare #[u, v]).run Tryd.prog w = .ok (.int .i64 (cmpL a b)) w := by
    change Sem.run Tryd.prog (do pure (goInt (Extern.BytealgCompare.cmp (← Extern.Bytes.bytesOf u) (← Extern.Bytes.bytesOf v)))) w = _
    simp only [Sem.run_bind, Sem.run_pure, run_bytes_of ha, run_bytes_of hb, Result.andThen, cmp_ext a b hl, goInt]
  rw [h]; rfl
theorem bCompare_any {w : World} {u v : Value} {a b : List UInt8} (ha : BytesOf w u a) (hb : BytesOf w v b) (hl : a.length = b.length) :
    Calls Tryd.prog 38 #[u, v] w fun e w' => e = .returned (.int .i64 (cmpL a b)) ∧ w = w' := by
  have hr := run_cmp_b ha hb hl
  go_enter Tryd.func38, Tryd.ntmps38
  go_wp2_with fail
  go_ret
  exact ⟨rfl, rfl⟩
set_option maxRecDepth 100000 in
theorem Compare_any {w : World} {a b : List UInt8} (ha : a.length = 32) (hb : b.length = 32) :
    Calls Tryd.prog 21 #[.agg (u8s a).toArray, .agg (u8s b).toArray] w fun e w' => e = .returned (.int .i64 (cmpL a b)) ∧ Below w.heap.size w w' := by
  go_enter Tryd.func21, Tryd.ntmps21
  go_upto_region 1 with fail
  refine wp_world fun w1 hw => ?_
  have b1 : Below w.heap.size w w1 := by rw [hw]; exact bl_alloc (bl_alloc (Below.refl _ _) _) _
  have C1 : Hs w1 w.heap.size a := by rw [hw]; exact kb_alloc (Cs.new rfl _) _
  have C2 : Hs w1 (w.heap.size + 1) b := by rw [hw]; exact Cs.new (by simp) _
  clear hw
  have H1 := Lib.hid b1
  have R : ∀ {g : Nat} {l : List UInt8}, Hs w1 g l → l.length = 32 → BytesOf w1.drew (.slice (some ⟨g, 0, none⟩) 32 32) l := fun {g l} h hl => by
    refine ⟨_, _, by rw [hl], u8s_len l, fun _ => ⟨g, 0, rfl, kb_lt h, fun j u hu => ?_⟩⟩
    rw [Nat.zero_add]; exact (Cs.at h j).trans hu
  have hR := Lib.hid (And.intro (R C1 ha) (R C2 hb))
  clear b1 C1 C2 R
  refine wp_region_held_drew (S := (fun W : World => True)) (by kernel_rfl) trivial (fun hHeld => ?_)
  refine wpAnyH_take (i := 0) (oi := { dst := some 5, op := _, type := _, pos := _, after := _, guard := _ }) (v := ?_) rfl (by kernel_rfl) (by kernel_rfl) (by kernel_rfl) (fun _ _ _ h => h) (Or.inl ⟨by rfl, ?_⟩) hHeld ?_
  rotate_left
  · (intro w hSw; (try dsimp only at hSw); go_simp); all_goals with_reducible rfl
  try simp only [Act.put, List.setIfInBounds_toArray, List.set_cons_zero, List.set_cons_succ]
  refine wpAnyH_take (i := 1) (oi := { dst := some 6, op := _, type := _, pos := _, after := _, guard := _ }) (v := ?_) rfl (by kernel_rfl) (by kernel_rfl) (by kernel_rfl) (fun _ _ _ h => h) (Or.inl ⟨by rfl, ?_⟩) hHeld ?_
  rotate_left
  · (intro w hSw; (try dsimp only at hSw); go_simp); all_goals with_reducible rfl
  try simp only [Act.put, List.setIfInBounds_toArray, List.set_cons_zero, List.set_cons_succ]
  refine wpAnyH_ready (rs := [2]) (by kernel_rfl) (by simp) (AllReadyH.cons (o := _) rfl (fun K hK => ?_) AllReadyH.nil)
  go_simp
  refine (bCompare_any hR.out.1 hR.out.2 (by rw [ha, hb])).mono ?_
  rintro e w2 ⟨rfl, rfl⟩
  refine hK.out _ _ trivial (fun hHeld => ?_)
  refine wpAnyH_take (i := 3) (oi := { dst := some 4, op := _, type := _, pos := _, after := _, guard := _ }) (v := ?_) rfl (by kernel_rfl) (by kernel_rfl) (by kernel_rfl) (fun _ _ _ h => h) (Or.inl ⟨by rfl, ?_⟩) hHeld ?_
  rotate_left
  · (intro w hSw; (try dsimp only at hSw); go_simp); all_goals with_reducible rfl
  try simp only [Act.put, List.setIfInBounds_toArray, List.set_cons_zero, List.set_cons_succ]
  refine wpAnyH_done (by kernel_rfl) ?_ _
  go_wp2_with fail
  go_ret
  exact ⟨rfl, bl_drew H1.out⟩
end Go.Proofs.YtmfajippoielhaaDoor
