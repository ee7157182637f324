/- commit.Decode. -/
import Derived.Test.YtooghjnddifpdaaCm26
namespace Go.Proofs.Ytooghjnddifpdaa
open Go.RowKit Go.Proofs.Ytooghjnddifpdaa.Cm Go.Proofs.Ytooghjnddifpdaa.Wi BigFrame
set_option linter.unusedSimpArgs false
set_option linter.unusedVariables false
attribute [local go_sem] cell_alloc_some frozen_alloc_some

theorem RdO.blk {w : World} {B p s xs st} (h : RdO w B p s xs st) : ∃ cs, w.heap[p]? = some (.cells cs 112 (0, 0)) := by
  cases st with
  | «at» a => exact ⟨_, Rd.st h⟩
  | bad e f => exact ⟨_, h.2.choose_spec.st⟩
theorem RdO.rowS {w : World} {B p s xs st} (h : RdO w B p s xs st) : w.ownsRow B 5 1 s xs.length (u8s xs) := by
  cases st with
  | «at» a => exact Rd.row h
  | bad e f => exact h.2.choose_spec.row
theorem own_two {w : World} {B B' e e' n n' sz sz' : Nat} {u v : Value} {xs ys : List Value} (hu : w.ownsRow B e sz u n xs) (hv : w.ownsRow B' e' sz' v n' ys) (hne : e ≠ e') : ∀ b, u.ownBlock = some b → v.ownBlock ≠ some b := by
  intro b hb h
  rcases hv.2 with ⟨rfl, _⟩ | ⟨g, cap, cur, rfl, _, hh, _⟩
  · cases h
  · have : g = b := by simpa [Value.ownBlock] using h
    subst this
    exact own_ne hu hh hne hb
/-- What Decode has made so far. -/
structure Dc (w W : World) (B p : Nat) (s : Value) (xs : List UInt8) (st : St) (c : C) (v : Value) (L : List Vt) : Prop where
  c0 : W.heap[w.heap.size]? = some (.cells (ccs c v).toArray 26 (0, 0))
  c1 : W.heap[w.heap.size + 1]? = some (.cells #[.int .i64 0, .int .i64 0] 61 (0, 0))
  r : RdO W B p s xs st
  lB : w.heap.size + 2 ≤ B
  o : W.ownsRow (w.heap.size + 2) 29 2 v L.length (vcs L)
  b : Below w.heap.size w W
  x : c.x.length = 32
section
variable {w W W' : World} {B p : Nat} {s : Value} {xs : List UInt8} {st st' : St} {c : C} {v : Value} {L : List Vt}
theorem Dc.did (h : Dc w W B p s xs st c v L) (hr : RdO W' B p s xs st') (k : Keep (fun b => b = p) W W') : Dc w W' B p s xs st' c v L where
  c0 := k.kb h.c0 (fun e => by have := h.r.lo; have := h.lB; omega)
  c1 := k.kb h.c1 (fun e => by have := h.r.lo; have := h.lB; omega)
  r := hr
  lB := h.lB
  o := k.row h.o (fun b hb e => by obtain ⟨cs, hp⟩ := h.r.blk; exact own_ne h.o hp (by decide) (by rw [hb, e]))
  b := ((Keep.of_below (S := fun _ => False) h.b).trans k (fun b hb e => by have := h.r.lo; have := h.lB; omega)).below (Nat.le_refl _) (fun b e => e.elim)
  x := h.x
theorem Dc.below (h : Dc w W B p s xs st c v L) (k : Below W.heap.size W W') : Dc w W' B p s xs st c v L where
  c0 := kb_below k h.c0
  c1 := kb_below k h.c1
  r := h.r.below k
  lB := h.lB
  o := (Keep.of_below (S := fun _ => False) k).row h.o (fun _ _ e => e)
  b := bl_then h.b k
  x := h.x
theorem Dc.keepz (h : Dc w W B p s xs st c v L) {c' : C} (hc : W'.heap[w.heap.size]? = some (.cells (ccs c' v).toArray 26 (0, 0))) (hx : c'.x.length = 32) (k : Keep (fun b => b = w.heap.size) W W') : Dc w W' B p s xs st c' v L where
  c0 := hc
  c1 := k.kb h.c1 (by omega)
  r := h.r.keep k (by have := h.r.lo; have := h.lB; omega) (fun b hb e => by have := (h.r.low b hb).1; have := h.lB; omega)
  lB := h.lB
  o := k.row h.o (fun b hb e => by have := (h.o.lt b hb).1; omega)
  b := ((Keep.of_below (S := fun _ => False) h.b).trans k (fun b hb e => by omega)).below (Nat.le_refl _) (fun b e => e.elim)
  x := hx
theorem Dc.put0 (h : Dc w W B p s xs st c v L) (n : Int) : Dc w (W.setCell ⟨w.heap.size, 0, none⟩ (.int .i64 n)) B p s xs st ⟨n, c.x, c.vs⟩ v L :=
  h.keepz (by have := kb_set (i := 0) h.c0 (.int .i64 n); rwa [ccs_set0] at this) h.x ((Keep.refl (fun b => b = w.heap.size) W).set (p := ⟨w.heap.size, 0, none⟩) (fun _ => rfl) _)
theorem Dc.setq (h : Dc w W B p s xs st c v L) {q i : Nat} {u : Value} (hq : w.heap.size + 2 ≤ q) (hp : p ≠ q) (hs : ∀ b, s.ownBlock = some b → b ≠ q) (hv : ∀ b, v.ownBlock = some b → b ≠ q) : Dc w (W.setCell ⟨q, i, none⟩ u) B p s xs st c v L := by
  have k : Keep (fun b => b = q) W (W.setCell ⟨q, i, none⟩ u) := (Keep.refl (fun b => b = q) W).set (p := ⟨q, i, none⟩) (fun _ => rfl) _
  exact ⟨k.kb h.c0 (by omega), k.kb h.c1 (by omega), h.r.keep k hp hs, h.lB, k.row h.o hv, ((Keep.of_below (S := fun _ => False) h.b).trans k (fun b hb e => by omega)).below (Nat.le_refl _) (fun b e => e.elim), h.x⟩
/-- A vote is appended and stored. -/
theorem Dc.app (h : Dc w W B p s xs st c v L) {x : Vt} {A : Option Addr} {n k : Nat} (hown : W'.ownsRow (w.heap.size + 2) 29 2 (.slice A n k) (L.length + 1) (vcs L ++ vcs [x])) (hg : (W.alloc (.cells #[.int .i64 x.p, .int .u64 x.g] 29)).grownBy W' v.ownBlock) :
    Dc w (W'.setCell ⟨w.heap.size, 33, none⟩ (.slice A n k)) B p s xs st c (.slice A n k) (L ++ [x]) ∧ (W'.cell? ⟨w.heap.size, 33, none⟩).isSome = true ∧ W'.frozen? ⟨w.heap.size, 33, none⟩ = false := by
  have kG : Keep (fun b => v.ownBlock = some b) W W' := ((Keep.refl _ W).alloc _).grown hg (fun b _ e => e)
  have E0 := kG.kb h.c0 (fun e => by have := (h.o.lt _ e).1; omega)
  have E1 := kG.kb h.c1 (fun e => by have := (h.o.lt _ e).1; omega)
  have hr : RdO W' B p s xs st := h.r.keep kG (fun e => by obtain ⟨cs, hp⟩ := h.r.blk; exact own_ne h.o hp (by decide) e) (fun b hb e => own_two h.o h.r.rowS (by decide) b e hb)
  have bb : Below w.heap.size w W' := ((Keep.of_below (S := fun _ => False) h.b).trans kG (fun b hb e => by have := (h.o.lt _ e).1; omega)).below (Nat.le_refl _) (fun b e => e.elim)
  have kS : Keep (fun b => b = w.heap.size) W' (W'.setCell ⟨w.heap.size, 33, none⟩ (.slice A n k)) := (Keep.refl (fun b => b = w.heap.size) W').set (p := ⟨w.heap.size, 33, none⟩) (fun _ => rfl) _
  refine ⟨⟨?_, kS.kb E1 (by omega), hr.keep kS (by have := h.r.lo; have := h.lB; omega) (fun b hb e => by have := (h.r.low b hb).1; have := h.lB; omega), h.lB, ?_, ((Keep.of_below (S := fun _ => False) bb).trans kS (fun b hb e => by omega)).below (Nat.le_refl _) (fun b e => e.elim), h.x⟩, by rw [kb_cell E0]; simp [ccs, u8s_len, h.x], kb_frozen E0 33⟩
  · have := kb_set (i := 33) E0 (.slice A n k)
    rwa [ccs_set h.x] at this
  · have := kS.row hown (fun b hb e => by have := (hown.lt b hb).1; omega)
    rw [vcs_append, List.length_append]
    exact this
end
theorem flt_set {W : World} {z : Nat} {a b : Int} (h : W.heap[z]? = some (.cells #[.int .i64 a, .int .i64 b] 61 (0, 0))) (e f : Int) : ((W.setCell ⟨z, 0, none⟩ (.int .i64 e)).setCell ⟨z, 1, none⟩ (.int .i64 f)).heap[z]? = some (.cells #[.int .i64 e, .int .i64 f] 61 (0, 0)) := by
  have := kb_set (i := 1) (kb_set (i := 0) h (.int .i64 e)) (.int .i64 f)
  simpa using this
theorem flt_set0 {W : World} {z : Nat} {a b : Int} (h : W.heap[z]? = some (.cells #[.int .i64 a, .int .i64 b] 61 (0, 0))) (e : Int) : (W.setCell ⟨z, 0, none⟩ (.int .i64 e)).heap[z]? = some (.cells #[.int .i64 e, .int .i64 b] 61 (0, 0)) := by
  have := kb_set (i := 0) h (.int .i64 e)
  simpa using this
theorem keep_flt (W : World) (z : Nat) (e f : Value) : Keep (fun b => b = z) W ((W.setCell ⟨z, 0, none⟩ e).setCell ⟨z, 1, none⟩ f) := ((Keep.refl (fun b => b = z) W).set (p := ⟨z, 0, none⟩) (fun _ => rfl) _).set (p := ⟨z, 1, none⟩) (fun _ => rfl) _
theorem flt_cells {W : World} {z : Nat} {a b : Int} (h : W.heap[z]? = some (.cells #[.int .i64 a, .int .i64 b] 61 (0, 0))) : W.cell? ⟨z, 0, none⟩ = some (.int .i64 a) ∧ W.cell? ⟨z, 1, none⟩ = some (.int .i64 b) ∧ W.frozen? ⟨z, 0, none⟩ = false ∧ W.frozen? ⟨z, 1, none⟩ = false := ⟨kb_cell h 0, kb_cell h 1, kb_frozen h 0, kb_frozen h 1⟩
/-- Behind the reading: the commit, the fault. -/
structure Df (w W : World) (c : C) (v : Value) (L : List Vt) (e f : Int) : Prop where
  c0 : W.heap[w.heap.size]? = some (.cells (ccs c v).toArray 26 (0, 0))
  c1 : W.heap[w.heap.size + 1]? = some (.cells #[.int .i64 e, .int .i64 f] 61 (0, 0))
  o : W.ownsRow (w.heap.size + 2) 29 2 v L.length (vcs L)
  b : Below w.heap.size w W
  x : c.x.length = 32
section
variable {w W W' : World} {c : C} {v : Value} {L : List Vt} {e f : Int}
theorem Dc.df {B p : Nat} {s : Value} {xs : List UInt8} {st : St} (h : Dc w W B p s xs st c v L) (e f : Int) : Df w ((W.setCell ⟨w.heap.size + 1, 0, none⟩ (.int .i64 e)).setCell ⟨w.heap.size + 1, 1, none⟩ (.int .i64 f)) c v L e f := by
  have k := keep_flt W (w.heap.size + 1) (.int .i64 e) (.int .i64 f)
  exact ⟨k.kb h.c0 (by omega), flt_set h.c1 e f, k.row h.o (fun b hb e => by have := (h.o.lt b hb).1; omega), ((Keep.of_below (S := fun _ => False) h.b).trans k (fun b hb e => by omega)).below (Nat.le_refl _) (fun b e => e.elim), h.x⟩
theorem Df.below (h : Df w W c v L e f) (k : Below W.heap.size W W') : Df w W' c v L e f := ⟨kb_below k h.c0, kb_below k h.c1, (Keep.of_below (S := fun _ => False) k).row h.o (fun _ _ e => e), bl_then h.b k, h.x⟩
theorem Df.set0 (h : Df w W c v L e f) (e' : Int) : Df w (W.setCell ⟨w.heap.size + 1, 0, none⟩ (.int .i64 e')) c v L e' f := by
  have k : Keep (fun b => b = w.heap.size + 1) W (W.setCell ⟨w.heap.size + 1, 0, none⟩ (.int .i64 e')) := (Keep.refl (fun b => b = w.heap.size + 1) W).set (p := ⟨w.heap.size + 1, 0, none⟩) (fun _ => rfl) _
  exact ⟨k.kb h.c0 (by omega), flt_set0 h.c1 e', k.row h.o (fun b hb e => by have := (h.o.lt b hb).1; omega), ((Keep.of_below (S := fun _ => False) h.b).trans k (fun b hb e => by omega)).below (Nat.le_refl _) (fun b e => e.elim), h.x⟩
theorem Df.setF (h : Df w W c v L e f) : Df w ((W.setCell ⟨w.heap.size + 1, 0, none⟩ (.int .i64 e)).setCell ⟨w.heap.size + 1, 1, none⟩ (.int .i64 f)) c v L e f := by
  have k := keep_flt W (w.heap.size + 1) (.int .i64 e) (.int .i64 f)
  exact ⟨k.kb h.c0 (by omega), flt_set h.c1 e f, k.row h.o (fun b hb e => by have := (h.o.lt b hb).1; omega), ((Keep.of_below (S := fun _ => False) h.b).trans k (fun b hb e => by omega)).below (Nat.le_refl _) (fun b e => e.elim), h.x⟩
theorem Df.zero (h : Df w W c v L e f) (hc : W'.heap[w.heap.size]? = some (.cells (ccs cZ vZ).toArray 26 (0, 0))) (k : Keep (fun b => b = w.heap.size) W W') : Df w W' cZ vZ [] e f :=
  ⟨hc, k.kb h.c1 (by omega), World.ownsRow_nil _ _ _ _, ((Keep.of_below (S := fun _ => False) h.b).trans k (fun b hb e => by omega)).below (Nat.le_refl _) (fun b e => e.elim), cZ_x⟩
theorem Df.same (h : Df w W c v L e f) (hc : W'.heap[w.heap.size]? = some (.cells (ccs c v).toArray 26 (0, 0))) (k : Keep (fun b => b = w.heap.size) W W') : Df w W' c v L e f :=
  ⟨hc, k.kb h.c1 (by omega), k.row h.o (fun b hb e => by have := (h.o.lt b hb).1; omega), ((Keep.of_below (S := fun _ => False) h.b).trans k (fun b hb e => by omega)).below (Nat.le_refl _) (fun b e => e.elim), h.x⟩
theorem Df.out {xs : List UInt8} {x : Ending} (h : Df w W c v L e f) (hF : ((decF xs).1 : Int) = e ∧ ((decF xs).2 : Int) = f) (hR : ccs (decR xs) v = ccs c v ∧ (decR xs).vs = L) (hx : x = .returned (.tuple #[.agg (ccs c v).toArray, .agg #[.int .i64 e, .int .i64 f]])) : DecOut xs w x W := by
  refine ⟨v, by rw [hx, hF.1, hF.2, hR.1], ?_, h.b⟩
  rw [hR.2]
  exact owns_mono h.o (by omega)
end

set_option maxRecDepth 100000 in
set_option maxHeartbeats 8000000 in
theorem Decode_any {w : World} {v : Value} {xs : List UInt8} (hb : BytesOf w v xs) (hl : xs.length ≤ 1000000) :
    Calls Try.prog 28 #[v] w (DecOut xs w) := by
  have HB := Lib.hid hb
  obtain ⟨A, cap, rfl⟩ := hb.form
  clear hb
  go_enter Try.func28, Try.ntmps28
  go_upto_region 1 with fail
  refine wp_world fun wA hwA => ?_
  have HA := Lib.hid (show wA.heap[w.heap.size]? = some (.cells (ccs cZ vZ).toArray 26 (0, 0)) ∧ wA.heap[w.heap.size + 1]? = some (.cells #[.int .i64 0, .int .i64 0] 61 (0, 0)) ∧ Below w.heap.size w wA by rw [hwA]; exact ⟨kb_alloc (kb_new rfl _) _, kb_new (by simp) _, bl_alloc (bl_alloc (Below.refl _ _) _) _⟩)
  clear hwA
  go_wp2_with fail
  refine (NewReader_any (HB.out.below HA.out.2.2) (by omega)).mono ?_
  rintro e w1 ⟨p, s, rfl, r1, b1⟩
  have HD := Lib.hid (Dc.mk (kb_below b1 HA.out.1) (kb_below b1 HA.out.2.1) r1 (kb_lt HA.out.2.1) (World.ownsRow_nil w1 _ _ _) (bl_then HA.out.2.2 b1) cZ_x : Dc w w1 wA.heap.size p s xs (.at 0) cZ vZ [])
  clear r1 b1 HA
  generalize wA.heap.size = B at *
  go_wp2_with fail
  refine (dNum_any HD.out.r).mono ?_
  rintro e w2 ⟨u, rfl, rfl, r2, k2⟩
  have HD := Lib.hid (show Dc w w2 B p s xs (dec1 xs).2 cZ vZ [] from HD.out.did r2 k2)
  clear r2 k2
  rw [show step (numP xs) 0 (.at 0) = dec1 xs from rfl]
  have e0 := (kb_cell HD.out.c0 0).trans (by simpa using ccs_0 cZ vZ)
  have z0 := kb_frozen HD.out.c0 0
  go_wp2_with fail
  have HD := Lib.hid (HD.out.put0 ((dec1 xs).1 : Int))
  refine (dHash_any HD.out.r).mono ?_
  rintro e w3 ⟨u, rfl, rfl, r3, k3⟩
  have HD := Lib.hid (show Dc w w3 B p s xs (dec2 xs).2 ⟨(dec1 xs).1, cZ.x, cZ.vs⟩ vZ [] from HD.out.did r3 k3)
  clear r3 k3 e0 z0
  rw [show step (fun a => takeP xs 32 a a id) (List.replicate 32 0) (dec1 xs).2 = dec2 xs from rfl]
  go_wp2_with (refine wpList_store_h (op := ⟨none, _, _, _, _, _⟩) rfl _ _ rfl _ rfl rfl HD.out.c0 HD.out.x (dec2_len xs) ?_)
  intro w4 g4 k4
  have HD := Lib.hid (show Dc w w4 B p s xs (dec2 xs).2 ⟨(dec1 xs).1, (dec2 xs).1, []⟩ vZ [] from HD.out.keepz g4 (dec2_len xs) k4)
  clear g4 k4
  go_wp2_with fail
  refine (dRest_any HD.out.r).mono ?_
  rintro e w5 ⟨rfl, b5⟩
  have HD := Lib.hid (HD.out.below b5)
  clear b5
  have hrl := restS_le xs (dec2 xs).2
  have hat : (xs.length : Int) - (restS xs (dec2 xs).2 : Int) = (decAt xs : Int) := by unfold decAt; omega
  go_wp2_with fail
  refine (dNum_any HD.out.r).mono ?_
  rintro e w6 ⟨u, rfl, rfl, r6, k6⟩
  have HD := Lib.hid (show Dc w w6 B p s xs (dec3 xs).2 ⟨(dec1 xs).1, (dec2 xs).1, []⟩ vZ [] from HD.out.did r6 k6)
  clear r6 k6 hrl
  rw [show step (numP xs) 0 (dec2 xs).2 = dec3 xs from rfl]
  clear hat
  have hn3 := sNum_lt xs (dec2 xs).2
  rw [show sNum xs (dec2 xs).2 = dec3 xs from rfl] at hn3
  have H3 := Lib.hid (show dec4 xs = readV xs (dec3 xs).1 (dec3 xs).2 from rfl)
  have HF := Lib.hid (show decF xs = if 64 < (dec3 xs).1 then (4, decAt xs) else if endS xs (dec4 xs).2 = (0, 0) then (chk (decC xs), 0) else endS xs (dec4 xs).2 from rfl)
  have HC := Lib.hid (show decC xs = ⟨(dec1 xs).1, (dec2 xs).1, (dec4 xs).1⟩ from rfl)
  have HR := Lib.hid (show decR xs = if decF xs = (0, 0) then decC xs else cZ from rfl)
  obtain ⟨h1, hh1⟩ : ∃ h1, h1 = (dec1 xs).1 := ⟨_, rfl⟩
  obtain ⟨h2, hh2⟩ : ∃ h2, h2 = (dec2 xs).1 := ⟨_, rfl⟩
  obtain ⟨n, hn⟩ : ∃ n, n = (dec3 xs).1 := ⟨_, rfl⟩
  rw [← hh1, ← hh2] at HD HC
  rw [← hn] at H3 HF hn3 ⊢
  clear hh1 hh2 hn
  generalize (dec3 xs).2 = s3 at *
  by_cases h64 : 64 < n
  · obtain ⟨f0, f1, z0, z1⟩ := flt_cells HD.out.c1
    go_wp2_with (refine wpList_store_c (op := ⟨none, .store 26 _ _, _, _, _, _⟩) rfl _ _ rfl _ rfl (congrArg Value.agg zeroC) HD.out.c0 (by simpa using ccs_len HD.out.x _) cZ_x rfl ?_)
    intro w7 g7 k7
    have HD := Lib.hid (show Dc w w7 B p s xs s3 cZ vZ [] from HD.out.keepz g7 cZ_x k7)
    clear g7 k7 f0 f1 z0 z1
    obtain ⟨f0, f1, z0, z1⟩ := flt_cells HD.out.c1
    have HE := Lib.hid (HD.out.df 4 (decAt xs : Int))
    go_wp2_with fail
    refine bodyPost_ret (results_cf rfl _ _ w.heap.size (w.heap.size + 1) cZ_x rfl HE.out.c0 rfl HE.out.c1) rfl ?_
    have hf : decF xs = (4, decAt xs) := by rw [HF.out, if_pos h64]
    have hr : decR xs = cZ := by rw [HR.out, hf, if_neg (by simp)]
    exact HE.out.out (by rw [hf]; exact ⟨rfl, rfl⟩) (by rw [hr]; exact ⟨rfl, rfl⟩) rfl
  · have hn64 : ¬ (64 : Int) < (n : Int) := by omega
    go_wp2_with fail
    go_loopw [7, 29, 30, 31, 32, 33, 34, 35, 36, 37, 38, 39, 40, 41, 42, 43] (fun _ s29 _ _ _ _ _ _ _ _ _ _ _ _ _ _ wr => ∃ (k : Nat) (L : List Vt) (st : St) (sv : Value), k ≤ n ∧ s29 = .int .i64 k ∧ Hid (ReadAt xs n s3 k L st) ∧ Hid (Dc w wr B p s xs st ⟨h1, h2, []⟩ sv L)) (fun _ s29 _ _ _ _ _ _ _ _ _ _ _ _ _ _ _ => n - (intOf s29).toNat)
    case atStart => exact ⟨0, [], s3, vZ, by omega, rfl, Lib.hid (ReadAt.zero _ _ _), HD⟩
    case round =>
      clear HD
      obtain ⟨k, L, st, sv, hk, rfl, hA, hD⟩ := hrel
      have HA := hA
      have HD := hD
      clear hA hD
      by_cases hlt : k < n
      · have HLT := Lib.hid hlt
        go_wp2_with fail
        refine (dNum_any HD.out.r).mono ?_
        rintro e w7 ⟨u, rfl, rfl, r7, k7⟩
        have HD := Lib.hid (show Dc w w7 B p s xs (sNum xs st).2 ⟨h1, h2, []⟩ sv L from HD.out.did r7 k7)
        clear r7 k7
        rw [show step (numP xs) 0 st = sNum xs st from rfl]
        have HQ := Lib.hid (HA.out.next hlt)
        obtain ⟨pn, hpn⟩ : ∃ pn, pn = (sNum xs st).1 := ⟨_, rfl⟩
        rw [← hpn] at HQ ⊢
        clear hpn
        generalize (sNum xs st).2 = st1 at *
        have HX := Lib.hid (show (w7.alloc (.cells #[.int .i64 (pn : Int), .int .u64 0] 29)).heap[w7.heap.size]? = some _ from kb_new rfl _)
        have hpq : p < w7.heap.size := HD.out.r.ltp
        have hsq := fun b hb => (HD.out.r.low b hb).2
        have hvq := fun b hb => (HD.out.o.lt b hb).2
        have hzq := HD.out.b.size
        have hcq := kb_lt HD.out.c1
        have HD := Lib.hid (HD.out.below (bl_alloc (Below.refl _ w7) (.cells #[.int .i64 (pn : Int), .int .u64 0] 29)))
        have HV := Lib.hid (And.intro hpq (And.intro hsq (And.intro hvq hcq)))
        clear hpq hsq hvq hzq hcq
        go_wp2_with fail
        refine (dWord_any HD.out.r).mono ?_
        rintro e w8 ⟨u, rfl, rfl, r8, k8⟩
        have HX := Lib.hid (k8.kb HX.out (by have := HV.out.1; omega))
        have HD := Lib.hid (show Dc w w8 B p s xs (sWord xs st1).2 ⟨h1, h2, []⟩ sv L from HD.out.did r8 k8)
        clear r8 k8
        rw [show step (fun a => takeP xs 8 a a bigL) 0 st1 = sWord xs st1 from rfl]
        obtain ⟨gn, hgn⟩ : ∃ gn, gn = (sWord xs st1).1 := ⟨_, rfl⟩
        rw [← hgn] at HQ ⊢
        clear hgn
        generalize (sWord xs st1).2 = st2 at *
        have x1 := kb_cell HX.out 1
        simp at x1
        have z1 := kb_frozen HX.out 1
        have X1 := kb_set (i := 1) HX.out (.int .u64 (gn : Int))
        have HD := Lib.hid (HD.out.setq (q := w7.heap.size) (i := 1) (u := .int .u64 (gn : Int)) (by have := HV.out.2.2.2; omega) (by have := HV.out.1; omega) (fun b hb => by have := HV.out.2.1 b hb; omega) (fun b hb => by have := HV.out.2.2.1 b hb; omega))
        have X2 : (w8.setCell ⟨w7.heap.size, 1, none⟩ (.int .u64 (gn : Int))).heap[w7.heap.size]? = some (.cells #[.int .i64 (pn : Int), .int .u64 (gn : Int)] 29 (0, 0)) := by simpa using X1
        obtain ⟨y0, y1⟩ := vt_boxed (x := ⟨pn, gn⟩) X2
        have e33 := (kb_cell HD.out.c0 33).trans (by simpa using ccs_33 HD.out.x sv)
        have hLk := HA.out.2
        obtain ⟨A3, c3, hsv⟩ := owns_slice0 HD.out.o
        subst hsv
        have ho := HD.out.o.alloc (.cells #[.int .i64 (pn : Int), .int .u64 (gn : Int)] 29)
        have hlr := lit_row (w8.setCell ⟨w7.heap.size, 1, none⟩ (.int .u64 (gn : Int))) ⟨pn, gn⟩
        rw [World.size_setCell] at hlr
        have HLR := Lib.hid hlr
        clear hlr
        have hbs := HD.out.b.size
        have hcq := kb_lt HD.out.c1
        clear X1 X2
        rw [hLk] at ho
        go_wp2_with (at_builtin; refine wpList_append_v _ rfl _ _ rfl (w.heap.size + 2) _ _ _ rfl ho _ [⟨pn, gn⟩] rfl HLR.out ?c3 ?c4 ?_)
        case c3 => simp; omega
        case c4 => simp at hcq ⊢; omega
        intro v' w10 hown' hgrow _
        obtain ⟨A6, c6, rfl⟩ := owns_slice0 hown'
        obtain ⟨D9, d33, z33⟩ := HD.out.app (W' := w10) (x := ⟨pn, gn⟩) (A := A6) (n := k + 1) (k := c6) (by rw [hLk]; exact hown') (by rw [hLk]; exact hgrow)
        obtain ⟨dv, hdv⟩ := Option.isSome_iff_exists.1 d33
        have HD := Lib.hid D9
        clear hown' hgrow D9 d33 ho
        go_wp2_with fail
        go_roundw
        case rel => exact ⟨k + 1, _, st2, _, by have := HLT.out; omega, by go_num, Lib.hid HQ.out, HD⟩
        case measure => simp [intOf]; omega
      · obtain rfl : k = n := by omega
        have h4 : dec4 xs = (L, st) := by rw [H3.out]; exact HA.out.end
        have HC := Lib.hid (show decC xs = ⟨h1, h2, L⟩ by rw [HC.out, h4])
        have HF := Lib.hid (show decF xs = if endS xs st = (0, 0) then (chk (decC xs), 0) else endS xs st by rw [HF.out, if_neg h64, h4])
        clear h4
        go_wp2_with fail
        refine (dEnd_any HD.out.r).mono ?_
        rintro e w7 ⟨rfl, b7⟩
        have HD := Lib.hid (HD.out.below b7)
        clear b7
        obtain ⟨e1, he1⟩ : ∃ e1, e1 = (endS xs st).1 := ⟨_, rfl⟩
        obtain ⟨e2, he2⟩ : ∃ e2, e2 = (endS xs st).2 := ⟨_, rfl⟩
        rw [← he1, ← he2]
        have HES := Lib.hid (show endS xs st = (e1, e2) by rw [he1, he2])
        clear he1 he2
        obtain ⟨f0, f1, z0, z1⟩ := flt_cells HD.out.c1
        have HE := Lib.hid (HD.out.df (e1 : Int) (e2 : Int))
        obtain ⟨g0, g1, y0, y1⟩ := flt_cells HE.out.c1
        have hq := eql_flt (e1 : Int) (e2 : Int) 0 0
        have hq2 := neq_flt (e1 : Int) (e2 : Int) 0 0
        by_cases hz : e1 = 0 ∧ e2 = 0
        · obtain ⟨rfl, rfl⟩ := hz
          rw [show decide (((0 : Nat) : Int) = 0 ∧ ((0 : Nat) : Int) = 0) = true by decide] at hq
          have HF := Lib.hid (show decF xs = (chk (decC xs), 0) by rw [HF.out, if_pos HES.out])
          clear hq2
          go_wp2_with (with_reducible refine wpList_load_cw _ rfl (by kernel_rfl) _ rfl HE.out.c0 HE.out.x ?_)
          have hck : Calls Try.prog 22 #[.agg (ccs ⟨h1, h2, []⟩ sv).toArray] ((w7.setCell ⟨w.heap.size + 1, 0, none⟩ (.int .i64 ((0 : Nat) : Int))).setCell ⟨w.heap.size + 1, 1, none⟩ (.int .i64 ((0 : Nat) : Int))) (ChkOut ⟨h1, h2, L⟩ ((w7.setCell ⟨w.heap.size + 1, 0, none⟩ (.int .i64 ((0 : Nat) : Int))).setCell ⟨w.heap.size + 1, 1, none⟩ (.int .i64 ((0 : Nat) : Int)))) := Check_any' (c := ⟨h1, h2, L⟩) HE.out.x (VRow.of_own HE.out.o) (by rw [HA.out.2]; omega)
          refine hck.mono ?_
          rintro e w8 ⟨rfl, b8⟩
          rw [← HC.out]
          have HE := Lib.hid (HE.out.below b8)
          clear b8 hck f0 f1 z0 z1 g0 g1 y0 y1 hq
          obtain ⟨f0, f1, z0, z1⟩ := flt_cells HE.out.c1
          obtain ⟨ck, hck⟩ : ∃ ck, ck = chk (decC xs) := ⟨_, rfl⟩
          rw [← hck] at HF ⊢
          clear hck
          have HE := Lib.hid (HE.out.set0 (ck : Int))
          obtain ⟨g0, g1, y0, y1⟩ := flt_cells HE.out.c1
          have hq2 := neq_flt (ck : Int) ((0 : Nat) : Int) 0 0
          by_cases hc0 : ck = 0
          · subst hc0
            rw [show (!decide (((0 : Nat) : Int) = 0 ∧ ((0 : Nat) : Int) = 0)) = false by decide] at hq2
            go_wp2_with fail
            clear f0 f1 z0 z1 g0 g1 y0 y1 hq2
            have HE := Lib.hid (HE.out.below (bl_drew (Below.refl _ _)))
            obtain ⟨f0, f1, z0, z1⟩ := flt_cells HE.out.c1
            refine wp_region_held_drew (S := (fun W : World => W.rangeAt w.heap.size 0 (ccs ⟨h1, h2, []⟩ sv) ∧ W.cell? ⟨w.heap.size + 1, 0, none⟩ = some (.int .i64 ((0 : Nat) : Int)) ∧ W.cell? ⟨w.heap.size + 1, 1, none⟩ = some (.int .i64 ((0 : Nat) : Int)))) (by kernel_rfl) ⟨range_of_kb HE.out.c0, f0, f1⟩ (fun hHeld => ?_)
            refine wpAnyH_take (i := 0) (oi := { dst := some 57, op := _, type := _, pos := _, after := _, guard := _ }) (v := _) rfl (by kernel_rfl) (by kernel_rfl) (by kernel_rfl) (fun _ _ _ h => h) (yieldsIf_load_mid (by rfl) 26 _ rfl w.heap.size 0 rfl (ccs ⟨h1, h2, []⟩ sv) _ (fun _ h => h.1) Try.underlying26 rfl (sizeC.trans (ccs_lenA HE.out.x).symm)) hHeld ?_
            try simp only [Act.put, List.setIfInBounds_toArray, List.set_cons_zero, List.set_cons_succ]
            refine wpAnyH_take (i := 1) (oi := { dst := some 58, op := _, type := _, pos := _, after := _, guard := _ }) (v := ?_) rfl (by kernel_rfl) (by kernel_rfl) (by kernel_rfl) (fun _ _ _ h => h) (Or.inl ⟨by rfl, ?_⟩) hHeld ?_
            rotate_left
            · (intro w hSw; (try dsimp only at hSw); go_simp); all_goals with_reducible rfl
            try simp only [Act.put, List.setIfInBounds_toArray, List.set_cons_zero, List.set_cons_succ]
            refine wpAnyH_ready (rs := [2]) (by kernel_rfl) (by simp) (AllReadyH.cons (o := _) rfl (fun K hK => ?_) AllReadyH.nil)
            refine step_store_c rfl _ _ rfl _ rfl rfl HE.out.c0 (by simpa using ccs_len HE.out.x _) HE.out.x (own1 HE.out.o) ?_
            intro w21 g21 k21
            have HE := Lib.hid (HE.out.same g21 k21)
            clear f0 f1 z0 z1
            obtain ⟨f0, f1, z0, z1⟩ := flt_cells HE.out.c1
            refine hK.out _ _ ⟨range_of_kb HE.out.c0, f0, f1⟩ (fun hHeld => ?_)
            clear hK K g21 k21
            refine wpAnyH_ready (rs := [3]) (by kernel_rfl) (by simp) (AllReadyH.cons (o := _) rfl (fun K hK => ?_) AllReadyH.nil)
            go_simp
            have HE := Lib.hid HE.out.setF
            obtain ⟨f0', f1', _, _⟩ := flt_cells HE.out.c1
            refine hK.out _ _ ⟨range_of_kb HE.out.c0, f0', f1'⟩ (fun hHeld => ?_)
            clear hK K
            refine wpAnyH_done (by kernel_rfl) ?_ _
            clear hHeld f0 f1 z0 z1 f0' f1'
            go_wp2_with fail
            refine bodyPost_ret (results_cf rfl _ _ w.heap.size (w.heap.size + 1) HE.out.x rfl HE.out.c0 rfl HE.out.c1) rfl ?_
            exact HE.out.out (by rw [HF.out]; exact ⟨rfl, rfl⟩) (by rw [HR.out, HF.out, if_pos rfl, HC.out]; exact ⟨rfl, rfl⟩) rfl
          · rw [show (!decide ((ck : Int) = 0 ∧ ((0 : Nat) : Int) = 0)) = true by simp; omega] at hq2
            have HNZ := Lib.hid hc0
            clear hc0
            go_wp2_with fail
            clear f0 f1 z0 z1 g0 g1 y0 y1 hq2
            have HE := Lib.hid (HE.out.below (bl_drew (Below.refl _ _)))
            obtain ⟨f0, f1, z0, z1⟩ := flt_cells HE.out.c1
            refine wp_region_held_drew (S := (fun W : World => W.cell? ⟨w.heap.size + 1, 0, none⟩ = some (.int .i64 (ck : Int)) ∧ W.cell? ⟨w.heap.size + 1, 1, none⟩ = some (.int .i64 ((0 : Nat) : Int)))) (by kernel_rfl) ⟨f0, f1⟩ (fun hHeld => ?_)
            refine wpAnyH_take (i := 0) (oi := { dst := some 55, op := _, type := _, pos := _, after := _, guard := _ }) (v := ?_) rfl (by kernel_rfl) (by kernel_rfl) (by kernel_rfl) (fun _ _ _ h => h) (Or.inl ⟨by rfl, ?_⟩) hHeld ?_
            rotate_left
            · (intro w hSw; (try dsimp only at hSw); go_simp); all_goals with_reducible rfl
            try simp only [Act.put, List.setIfInBounds_toArray, List.set_cons_zero, List.set_cons_succ]
            refine wpAnyH_take (i := 1) (oi := { dst := some 56, op := _, type := _, pos := _, after := _, guard := _ }) (v := ?_) rfl (by kernel_rfl) (by kernel_rfl) (by kernel_rfl) (fun _ _ _ h => h) (Or.inl ⟨by rfl, ?_⟩) hHeld ?_
            rotate_left
            · (intro w hSw; (try dsimp only at hSw); go_simp); all_goals with_reducible rfl
            try simp only [Act.put, List.setIfInBounds_toArray, List.set_cons_zero, List.set_cons_succ]
            clear f0 f1 z0 z1
            refine wpAnyH_ready (rs := [2]) (by kernel_rfl) (by simp) (AllReadyH.cons (o := _) rfl (fun K hK => ?_) AllReadyH.nil)
            refine step_store_c rfl _ _ rfl _ rfl (congrArg Value.agg zeroC) HE.out.c0 (by simpa using ccs_len HE.out.x _) cZ_x rfl ?_
            intro w21 g21 k21
            have HE := Lib.hid (HE.out.zero g21 k21)
            obtain ⟨f0, f1, z0, z1⟩ := flt_cells HE.out.c1
            refine hK.out _ _ ⟨f0, f1⟩ (fun hHeld => ?_)
            clear hK K g21 k21
            refine wpAnyH_ready (rs := [3]) (by kernel_rfl) (by simp) (AllReadyH.cons (o := _) rfl (fun K hK => ?_) AllReadyH.nil)
            go_simp
            have HE := Lib.hid HE.out.setF
            obtain ⟨f0', f1', _, _⟩ := flt_cells HE.out.c1
            refine hK.out _ _ ⟨f0', f1'⟩ (fun hHeld => ?_)
            clear hK K
            refine wpAnyH_done (by kernel_rfl) ?_ _
            clear hHeld f0 f1 z0 z1 f0' f1'
            go_wp2_with fail
            refine bodyPost_ret (results_cf rfl _ _ w.heap.size (w.heap.size + 1) cZ_x rfl HE.out.c0 rfl HE.out.c1) rfl ?_
            exact HE.out.out (by rw [HF.out]; exact ⟨rfl, rfl⟩) (by rw [HR.out, HF.out, if_neg (fun h => HNZ.out (congrArg Prod.fst h))]; exact ⟨rfl, rfl⟩) rfl
        · rw [show decide ((e1 : Int) = 0 ∧ (e2 : Int) = 0) = false by simp; omega] at hq
          rw [show (!decide ((e1 : Int) = 0 ∧ (e2 : Int) = 0)) = true by simp; omega] at hq2
          have HNZ := Lib.hid (show (e1, e2) ≠ (0, 0) from fun h => hz ⟨congrArg Prod.fst h, congrArg Prod.snd h⟩)
          have HF := Lib.hid (show decF xs = (e1, e2) by rw [HF.out, HES.out, if_neg HNZ.out])
          clear hz
          go_wp2_with fail
          clear f0 f1 z0 z1 g0 g1 y0 y1 hq2 hq
          have HE := Lib.hid (HE.out.below (bl_drew (Below.refl _ _)))
          obtain ⟨f0, f1, z0, z1⟩ := flt_cells HE.out.c1
          refine wp_region_held_drew (S := (fun W : World => W.cell? ⟨w.heap.size + 1, 0, none⟩ = some (.int .i64 (e1 : Int)) ∧ W.cell? ⟨w.heap.size + 1, 1, none⟩ = some (.int .i64 (e2 : Int)))) (by kernel_rfl) ⟨f0, f1⟩ (fun hHeld => ?_)
          refine wpAnyH_take (i := 0) (oi := { dst := some 55, op := _, type := _, pos := _, after := _, guard := _ }) (v := ?_) rfl (by kernel_rfl) (by kernel_rfl) (by kernel_rfl) (fun _ _ _ h => h) (Or.inl ⟨by rfl, ?_⟩) hHeld ?_
          rotate_left
          · (intro w hSw; (try dsimp only at hSw); go_simp); all_goals with_reducible rfl
          try simp only [Act.put, List.setIfInBounds_toArray, List.set_cons_zero, List.set_cons_succ]
          refine wpAnyH_take (i := 1) (oi := { dst := some 56, op := _, type := _, pos := _, after := _, guard := _ }) (v := ?_) rfl (by kernel_rfl) (by kernel_rfl) (by kernel_rfl) (fun _ _ _ h => h) (Or.inl ⟨by rfl, ?_⟩) hHeld ?_
          rotate_left
          · (intro w hSw; (try dsimp only at hSw); go_simp); all_goals with_reducible rfl
          try simp only [Act.put, List.setIfInBounds_toArray, List.set_cons_zero, List.set_cons_succ]
          clear f0 f1 z0 z1
          refine wpAnyH_ready (rs := [2]) (by kernel_rfl) (by simp) (AllReadyH.cons (o := _) rfl (fun K hK => ?_) AllReadyH.nil)
          refine step_store_c rfl _ _ rfl _ rfl (congrArg Value.agg zeroC) HE.out.c0 (by simpa using ccs_len HE.out.x _) cZ_x rfl ?_
          intro w21 g21 k21
          have HE := Lib.hid (HE.out.zero g21 k21)
          obtain ⟨f0, f1, z0, z1⟩ := flt_cells HE.out.c1
          refine hK.out _ _ ⟨f0, f1⟩ (fun hHeld => ?_)
          clear hK K g21 k21
          refine wpAnyH_ready (rs := [3]) (by kernel_rfl) (by simp) (AllReadyH.cons (o := _) rfl (fun K hK => ?_) AllReadyH.nil)
          go_simp
          have HE := Lib.hid HE.out.setF
          obtain ⟨f0', f1', _, _⟩ := flt_cells HE.out.c1
          refine hK.out _ _ ⟨f0', f1'⟩ (fun hHeld => ?_)
          clear hK K
          refine wpAnyH_done (by kernel_rfl) ?_ _
          clear hHeld f0 f1 z0 z1 f0' f1'
          go_wp2_with fail
          refine bodyPost_ret (results_cf rfl _ _ w.heap.size (w.heap.size + 1) cZ_x rfl HE.out.c0 rfl HE.out.c1) rfl ?_
          exact HE.out.out (by rw [HF.out]; exact ⟨rfl, rfl⟩) (by rw [HR.out, HF.out, if_neg HNZ.out]; exact ⟨rfl, rfl⟩) rfl
end Go.Proofs.Ytooghjnddifpdaa
