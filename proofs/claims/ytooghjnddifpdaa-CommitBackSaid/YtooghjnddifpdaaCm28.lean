/- The document's Decode. -/
import Derived.Test.YtooghjnddifpdaaCm27
import Derived.Test.YtooghjnddifpdaaCWd
namespace Go.Proofs.Ytooghjnddifpdaa
open Go.RowKit Go.Proofs.Ytooghjnddifpdaa.Cm Go.Proofs.Ytooghjnddifpdaa.Wi BigFrame
set_option linter.unusedSimpArgs false
set_option linter.unusedVariables false
attribute [local go_sem] cell_alloc_some frozen_alloc_some

/-- What the document's Decode has made so far. -/
structure Ec (w W : World) (q B p : Nat) (s : Value) (xs : List UInt8) (st : St) (c : C) (v : Value) (L : List Vt) : Prop where
  r0 : W.heap[w.heap.size]? = some (.cells (ccs cZ vZ).toArray 26 (0, 0))
  r1 : W.heap[w.heap.size + 1]? = some (.cells #[.int .i64 0, .int .i64 0] 61 (0, 0))
  c0 : W.heap[q]? = some (.cells (ccs c v).toArray 26 (0, 0))
  r : RRdO W B p s xs st
  lz : w.heap.size + 2 ≤ p
  lp : p < q
  ls : ∀ b, s.ownBlock = some b → b < q
  o : W.ownsRow (q + 1) 29 2 v L.length (vcs L)
  b : Below w.heap.size w W
  x : c.x.length = 32
section
variable {w W W' : World} {q B p : Nat} {s : Value} {xs : List UInt8} {st st' : St} {c : C} {v : Value} {L : List Vt}
theorem Ec.did (h : Ec w W q B p s xs st c v L) (hr : RRdO W' B p s xs st') (k : Keep (fun b => b = p) W W') : Ec w W' q B p s xs st' c v L where
  r0 := k.kb h.r0 (fun e => by have := h.lz; omega)
  r1 := k.kb h.r1 (fun e => by have := h.lz; omega)
  c0 := k.kb h.c0 (fun e => by have := h.lp; omega)
  r := hr
  lz := h.lz
  lp := h.lp
  ls := h.ls
  o := k.row h.o (fun b hb e => by have := (h.o.lt b hb).1; have := h.lp; omega)
  b := ((Keep.of_below (S := fun _ => False) h.b).trans k (fun b hb e => by have := h.lz; omega)).below (Nat.le_refl _) (fun b e => e.elim)
  x := h.x
theorem Ec.below (h : Ec w W q B p s xs st c v L) (k : Below W.heap.size W W') : Ec w W' q B p s xs st c v L where
  r0 := kb_below k h.r0
  r1 := kb_below k h.r1
  c0 := kb_below k h.c0
  r := h.r.below k
  lz := h.lz
  lp := h.lp
  ls := h.ls
  o := (Keep.of_below (S := fun _ => False) k).row h.o (fun _ _ e => e)
  b := bl_then h.b k
  x := h.x
theorem Ec.keepc (h : Ec w W q B p s xs st c v L) {c' : C} (hc : W'.heap[q]? = some (.cells (ccs c' v).toArray 26 (0, 0))) (hx : c'.x.length = 32) (k : Keep (fun b => b = q) W W') : Ec w W' q B p s xs st c' v L where
  r0 := k.kb h.r0 (fun e => by have := h.lz; have := h.lp; omega)
  r1 := k.kb h.r1 (fun e => by have := h.lz; have := h.lp; omega)
  c0 := hc
  r := h.r.keep k (by have := h.lp; omega) (fun b hb e => by have := h.ls b hb; omega)
  lz := h.lz
  lp := h.lp
  ls := h.ls
  o := k.row h.o (fun b hb e => by have := (h.o.lt b hb).1; omega)
  b := ((Keep.of_below (S := fun _ => False) h.b).trans k (fun b hb e => by have := h.lz; have := h.lp; omega)).below (Nat.le_refl _) (fun b e => e.elim)
  x := hx
theorem Ec.put0 (h : Ec w W q B p s xs st c v L) (n : Int) : Ec w (W.setCell ⟨q, 0, none⟩ (.int .i64 n)) q B p s xs st ⟨n, c.x, c.vs⟩ v L :=
  h.keepc (by have := kb_set (i := 0) h.c0 (.int .i64 n); rwa [ccs_set0] at this) h.x ((Keep.refl (fun b => b = q) W).set (p := ⟨q, 0, none⟩) (fun _ => rfl) _)
theorem Ec.setq (h : Ec w W q B p s xs st c v L) {y i : Nat} {u : Value} (hy : q < y) (hv : ∀ b, v.ownBlock = some b → b ≠ y) : Ec w (W.setCell ⟨y, i, none⟩ u) q B p s xs st c v L := by
  have k : Keep (fun b => b = y) W (W.setCell ⟨y, i, none⟩ u) := (Keep.refl (fun b => b = y) W).set (p := ⟨y, i, none⟩) (fun _ => rfl) _
  have h1 := h.lz
  have h2 := h.lp
  exact ⟨k.kb h.r0 (by omega), k.kb h.r1 (by omega), k.kb h.c0 (by omega), h.r.keep k (by omega) (fun b hb e => by have := h.ls b hb; omega), h.lz, h.lp, h.ls, k.row h.o hv, ((Keep.of_below (S := fun _ => False) h.b).trans k (fun b hb e => by omega)).below (Nat.le_refl _) (fun b e => e.elim), h.x⟩
/-- A vote is appended and stored. -/
theorem Ec.app (h : Ec w W q B p s xs st c v L) {x : Vt} {A : Option Addr} {n k : Nat} (hown : W'.ownsRow (q + 1) 29 2 (.slice A n k) (L.length + 1) (vcs L ++ vcs [x])) (hg : (W.alloc (.cells #[.int .i64 x.p, .int .u64 x.g] 29)).grownBy W' v.ownBlock) :
    Ec w (W'.setCell ⟨q, 33, none⟩ (.slice A n k)) q B p s xs st c (.slice A n k) (L ++ [x]) ∧ (W'.cell? ⟨q, 33, none⟩).isSome = true ∧ W'.frozen? ⟨q, 33, none⟩ = false := by
  have h1 := h.lz
  have h2 := h.lp
  have kG : Keep (fun b => v.ownBlock = some b) W W' := ((Keep.refl _ W).alloc _).grown hg (fun b _ e => e)
  have hv : ∀ b, b ≤ q → ¬ v.ownBlock = some b := fun b hb e => by have := (h.o.lt _ e).1; omega
  have E0 := kG.kb h.r0 (hv _ (by omega))
  have E1 := kG.kb h.r1 (hv _ (by omega))
  have E2 := kG.kb h.c0 (hv _ (by omega))
  have hr : RRdO W' B p s xs st := h.r.keep kG (hv _ (by omega)) (fun b hb => hv b (by have := h.ls b hb; omega))
  have bb : Below w.heap.size w W' := ((Keep.of_below (S := fun _ => False) h.b).trans kG (fun b hb e => hv b (by omega) e)).below (Nat.le_refl _) (fun b e => e.elim)
  have kS : Keep (fun b => b = q) W' (W'.setCell ⟨q, 33, none⟩ (.slice A n k)) := (Keep.refl (fun b => b = q) W').set (p := ⟨q, 33, none⟩) (fun _ => rfl) _
  refine ⟨⟨kS.kb E0 (by omega), kS.kb E1 (by omega), ?_, hr.keep kS (by omega) (fun b hb e => by have := h.ls b hb; omega), h.lz, h.lp, h.ls, ?_, ((Keep.of_below (S := fun _ => False) bb).trans kS (fun b hb e => by omega)).below (Nat.le_refl _) (fun b e => e.elim), h.x⟩, by rw [kb_cell E2]; simp [ccs, u8s_len, h.x], kb_frozen E2 33⟩
  · have := kb_set (i := 33) E2 (.slice A n k)
    rwa [ccs_set h.x] at this
  · have := kS.row hown (fun b hb e => by have := (hown.lt b hb).1; omega)
    rw [vcs_append, List.length_append]
    exact this
/-- The results are stored with no commit. -/
theorem Ec.fin0 (h : Ec w W q B p s xs st c v L) (hc : W'.heap[w.heap.size]? = some (.cells (ccs cZ vZ).toArray 26 (0, 0))) (k : Keep (fun b => b = w.heap.size) W W') (e f : Int) : Df w ((W'.setCell ⟨w.heap.size + 1, 0, none⟩ (.int .i64 e)).setCell ⟨w.heap.size + 1, 1, none⟩ (.int .i64 f)) cZ vZ [] e f := by
  have b1 : Below w.heap.size w W' := ((Keep.of_below (S := fun _ => False) h.b).trans k (fun b hb e => by omega)).below (Nat.le_refl _) (fun b e => e.elim)
  have k2 := keep_flt W' (w.heap.size + 1) (.int .i64 e) (.int .i64 f)
  exact ⟨k2.kb hc (by omega), flt_set (k.kb h.r1 (by omega)) e f, World.ownsRow_nil _ _ _ _, ((Keep.of_below (S := fun _ => False) b1).trans k2 (fun b hb e => by omega)).below (Nat.le_refl _) (fun b e => e.elim), cZ_x⟩
end
theorem end_zero {W : World} {B p : Nat} {s : Value} {xs : List UInt8} {st : St} (h : RRdO W B p s xs st) : (endS xs st).1 = 0 → (endS xs st).2 = 0 := by
  cases st with
  | «at» a => intro h1; by_cases k : a < xs.length <;> simp [endS, k] at h1 ⊢
  | bad e f => intro h1; exact absurd h1 h.1
/-- Behind the reading. -/
structure Ef (w W : World) (q g : Nat) (c' : C) (v' : Value) (c : C) (v : Value) (L : List Vt) (e f : Int) : Prop where
  r0 : W.heap[w.heap.size]? = some (.cells (ccs c' v').toArray 26 (0, 0))
  r1 : W.heap[w.heap.size + 1]? = some (.cells #[.int .i64 0, .int .i64 0] 61 (0, 0))
  c0 : W.heap[q]? = some (.cells (ccs c v).toArray 26 (0, 0))
  f0 : W.heap[g]? = some (.cells #[.int .i64 e, .int .i64 f] 61 (0, 0))
  lq : w.heap.size + 2 ≤ q
  lg : q < g
  og : ∀ b, v.ownBlock = some b → b ≠ g
  o : W.ownsRow (q + 1) 29 2 v L.length (vcs L)
  b : Below w.heap.size w W
  x : c.x.length = 32
  x' : c'.x.length = 32
section
variable {w W W' : World} {q g : Nat} {c' : C} {v' : Value} {c : C} {v : Value} {L : List Vt} {e f : Int}
theorem Ec.fault {B p : Nat} {s : Value} {xs : List UInt8} {st : St} (h : Ec w W q B p s xs st c v L) (e f : Int) : Ef w (W.alloc (.cells #[.int .i64 e, .int .i64 f] 61)) q W.heap.size cZ vZ c v L e f :=
  have k := bl_alloc (Below.refl _ W) (.cells #[.int .i64 e, .int .i64 f] 61)
  ⟨kb_below k h.r0, kb_below k h.r1, kb_below k h.c0, kb_new rfl _, by have := h.lz; have := h.lp; omega, kb_lt h.c0, fun b hb => by have := (h.o.lt b hb).2; omega, (Keep.of_below (S := fun _ => False) k).row h.o (fun _ _ e => e), bl_then h.b k, h.x, cZ_x⟩
theorem Ef.below (h : Ef w W q g c' v' c v L e f) (k : Below W.heap.size W W') : Ef w W' q g c' v' c v L e f :=
  ⟨kb_below k h.r0, kb_below k h.r1, kb_below k h.c0, kb_below k h.f0, h.lq, h.lg, h.og, (Keep.of_below (S := fun _ => False) k).row h.o (fun _ _ e => e), bl_then h.b k, h.x, h.x'⟩
theorem Ef.set0 (h : Ef w W q g c' v' c v L e f) (e' : Int) : Ef w (W.setCell ⟨g, 0, none⟩ (.int .i64 e')) q g c' v' c v L e' f := by
  have k : Keep (fun b => b = g) W (W.setCell ⟨g, 0, none⟩ (.int .i64 e')) := (Keep.refl (fun b => b = g) W).set (p := ⟨g, 0, none⟩) (fun _ => rfl) _
  have h1 := h.lq
  have h2 := h.lg
  exact ⟨k.kb h.r0 (by omega), k.kb h.r1 (by omega), k.kb h.c0 (by omega), flt_set0 h.f0 e', h.lq, h.lg, h.og, k.row h.o h.og, ((Keep.of_below (S := fun _ => False) h.b).trans k (fun b hb e => by omega)).below (Nat.le_refl _) (fun b e => e.elim), h.x, h.x'⟩
theorem Ef.store (h : Ef w W q g c' v' c v L e f) {c2 : C} {v2 : Value} (hx : c2.x.length = 32) (hc : W'.heap[w.heap.size]? = some (.cells (ccs c2 v2).toArray 26 (0, 0))) (k : Keep (fun b => b = w.heap.size) W W') : Ef w W' q g c2 v2 c v L e f := by
  have h1 := h.lq
  have h2 := h.lg
  exact ⟨hc, k.kb h.r1 (by omega), k.kb h.c0 (by omega), k.kb h.f0 (by omega), h.lq, h.lg, h.og, k.row h.o (fun b hb e => by have := (h.o.lt b hb).1; omega), ((Keep.of_below (S := fun _ => False) h.b).trans k (fun b hb e => by omega)).below (Nat.le_refl _) (fun b e => e.elim), h.x, hx⟩
theorem Ef.last (h : Ef w W q g c' v' c v L e f) {L' : List Vt} (ho : W.ownsRow (w.heap.size + 2) 29 2 v' L'.length (vcs L')) : Df w ((W.setCell ⟨w.heap.size + 1, 0, none⟩ (.int .i64 e)).setCell ⟨w.heap.size + 1, 1, none⟩ (.int .i64 f)) c' v' L' e f := by
  have k := keep_flt W (w.heap.size + 1) (.int .i64 e) (.int .i64 f)
  exact ⟨k.kb h.r0 (by omega), flt_set h.r1 e f, k.row ho (fun b hb e => by have := (ho.lt b hb).1; omega), ((Keep.of_below (S := fun _ => False) h.b).trans k (fun b hb e => by omega)).below (Nat.le_refl _) (fun b e => e.elim), h.x'⟩
theorem Ef.kept (h : Ef w W q g c' v' c v L e f) : ((W.setCell ⟨w.heap.size + 1, 0, none⟩ (.int .i64 e)).setCell ⟨w.heap.size + 1, 1, none⟩ (.int .i64 f)).heap[g]? = some (.cells #[.int .i64 e, .int .i64 f] 61 (0, 0)) ∧ ((W.setCell ⟨w.heap.size + 1, 0, none⟩ (.int .i64 e)).setCell ⟨w.heap.size + 1, 1, none⟩ (.int .i64 f)).heap[q]? = some (.cells (ccs c v).toArray 26 (0, 0)) := by
  have k := keep_flt W (w.heap.size + 1) (.int .i64 e) (.int .i64 f)
  have h1 := h.lq
  have h2 := h.lg
  exact ⟨k.kb h.f0 (by omega), k.kb h.c0 (by omega)⟩
end

set_option maxRecDepth 100000 in
set_option maxHeartbeats 8000000 in
theorem rDecode_any {w : World} {v : Value} {xs : List UInt8} (hb : BytesOf w v xs) (hl : xs.length ≤ 1000000) :
    Calls Try.prog 29 #[v] w (DecOut xs w) := by
  have HB := Lib.hid hb
  obtain ⟨A, cap, rfl⟩ := hb.form
  clear hb
  go_enter Try.func29, Try.ntmps29
  go_upto_region 1 with fail
  refine wp_world fun wA hwA => ?_
  have HA := Lib.hid (show wA.heap[w.heap.size]? = some (.cells (ccs cZ vZ).toArray 26 (0, 0)) ∧ wA.heap[w.heap.size + 1]? = some (.cells #[.int .i64 0, .int .i64 0] 61 (0, 0)) ∧ Below w.heap.size w wA by rw [hwA]; exact ⟨kb_alloc (kb_new rfl _) _, kb_new (by simp) _, bl_alloc (bl_alloc (Below.refl _ _) _) _⟩)
  clear hwA
  go_wp2_with fail
  refine (rNew_any (HB.out.below HA.out.2.2) (by omega)).mono ?_
  rintro e w1 ⟨p, s, rfl, r1, b1⟩
  have HD0 := Lib.hid (And.intro (kb_below b1 HA.out.1) (And.intro (kb_below b1 HA.out.2.1) (And.intro r1 (And.intro (kb_lt HA.out.2.1) (bl_then HA.out.2.2 b1)))))
  clear r1 b1 HA
  generalize wA.heap.size = B at *
  go_upto_region 3 with fail
  refine wp_world fun wB hwB => ?_
  have HD := Lib.hid (show Ec w wB w1.heap.size B p s xs (.at 0) cZ vZ [] by
    obtain ⟨d0, d1, dr, dB, db⟩ := HD0.out
    have k := bl_alloc (Below.refl _ w1) (.cells (ccs cZ vZ).toArray 26)
    have hr := dr.below k
    rw [hwB]
    exact ⟨kb_below k d0, kb_below k d1, kb_new rfl _, hr, by have := dr.lp; omega, dr.ltp, fun b hb => (dr.low b hb).2, World.ownsRow_nil _ _ _ _, bl_then db k, cZ_x⟩)
  clear hwB HD0
  generalize w1.heap.size = q at *
  go_wp2_with fail
  refine (rNum_any HD.out.r).mono ?_
  rintro e w2 ⟨u, rfl, rfl, r2, k2⟩
  have HD := Lib.hid (show Ec w w2 q B p s xs (dec1 xs).2 cZ vZ [] from HD.out.did r2 k2)
  clear r2 k2
  rw [show step (numP xs) 0 (.at 0) = dec1 xs from rfl]
  have e0 := (kb_cell HD.out.c0 0).trans (by simpa using ccs_0 cZ vZ)
  have z0 := kb_frozen HD.out.c0 0
  go_wp2_with fail
  have HD := Lib.hid (HD.out.put0 ((dec1 xs).1 : Int))
  refine (rHash_any' HD.out.r).mono ?_
  rintro e w3 ⟨u, rfl, rfl, r3, k3⟩
  have HD := Lib.hid (show Ec w w3 q B p s xs (dec2 xs).2 ⟨(dec1 xs).1, cZ.x, cZ.vs⟩ vZ [] from HD.out.did r3 k3)
  clear r3 k3 e0 z0
  rw [show step (fun a => takeP xs 32 a a id) (List.replicate 32 0) (dec1 xs).2 = dec2 xs from rfl]
  go_wp2_with (refine wpList_store_h (op := ⟨none, _, _, _, _, _⟩) rfl _ _ rfl _ rfl rfl HD.out.c0 HD.out.x (dec2_len xs) ?_)
  intro w4 g4 k4
  have HD := Lib.hid (show Ec w w4 q B p s xs (dec2 xs).2 ⟨(dec1 xs).1, (dec2 xs).1, []⟩ vZ [] from HD.out.keepc g4 (dec2_len xs) k4)
  clear g4 k4
  go_wp2_with fail
  refine (rRest_any HD.out.r).mono ?_
  rintro e w5 ⟨rfl, b5⟩
  have HD := Lib.hid (HD.out.below b5)
  clear b5
  have hrl := restS_le xs (dec2 xs).2
  have hat : (xs.length : Int) - (restS xs (dec2 xs).2 : Int) = (decAt xs : Int) := by unfold decAt; omega
  go_wp2_with fail
  refine (rNum_any HD.out.r).mono ?_
  rintro e w6 ⟨u, rfl, rfl, r6, k6⟩
  have HD := Lib.hid (show Ec w w6 q B p s xs (dec3 xs).2 ⟨(dec1 xs).1, (dec2 xs).1, []⟩ vZ [] from HD.out.did r6 k6)
  clear r6 k6 hrl
  rw [show step (numP xs) 0 (dec2 xs).2 = dec3 xs from rfl]
  clear hat
  have hn3 := sNum_lt xs (dec2 xs).2
  rw [show sNum xs (dec2 xs).2 = dec3 xs from rfl] at hn3
  have H3 := Lib.hid (show dec4 xs = readV xs (dec3 xs).1 (dec3 xs).2 from rfl)
  have HF := Lib.hid (show decF xs = if 64 < (dec3 xs).1 then (4, decAt xs) else if endS xs (dec4 xs).2 = (0, 0) then (chk (decC xs), 0) else endS xs (dec4 xs).2 from rfl)
  have HC := Lib.hid (show decC xs = ⟨(dec1 xs).1, (dec2 xs).1, (dec4 xs).1⟩ from rfl)
  have HR := Lib.hid (show decR xs = if decF xs = (0, 0) then decC xs else cZ from rfl)
  obtain ⟨h1, hh1⟩ : ∃ h1, h1 = (dec1 xs).1 := ⟨_, rfl⟩
  obtain ⟨h2, hh2⟩ : ∃ h2, h2 = (dec2 xs).1 := ⟨_, rfl⟩
  obtain ⟨n, hn⟩ : ∃ n, n = (dec3 xs).1 := ⟨_, rfl⟩
  rw [← hh1, ← hh2] at HD HC
  rw [← hn] at H3 HF hn3 ⊢
  clear hh1 hh2 hn
  generalize (dec3 xs).2 = s3 at *
  by_cases h64 : 64 < n
  · obtain ⟨f0, f1, z0, z1⟩ := flt_cells HD.out.r1
    go_wp2_with (refine wpList_store_c (op := ⟨none, .store 26 _ _, _, _, _, _⟩) rfl _ _ rfl _ rfl (congrArg Value.agg zeroC) HD.out.r0 (by simpa using ccs_len cZ_x _) cZ_x rfl ?_)
    intro w7 g7 k7
    have HE := Lib.hid (HD.out.fin0 g7 k7 4 (decAt xs : Int))
    clear f0 f1 z0 z1
    obtain ⟨f0, f1, z0, z1⟩ := flt_cells (k7.kb HD.out.r1 (by omega))
    clear g7 k7
    go_wp2_with fail
    refine bodyPost_ret (results_cf rfl _ _ w.heap.size (w.heap.size + 1) cZ_x rfl HE.out.c0 rfl HE.out.c1) rfl ?_
    have hf : decF xs = (4, decAt xs) := by rw [HF.out, if_pos h64]
    have hr : decR xs = cZ := by rw [HR.out, hf, if_neg (by simp)]
    exact HE.out.out (by rw [hf]; exact ⟨rfl, rfl⟩) (by rw [hr]; exact ⟨rfl, rfl⟩) rfl
  · have hn64 : ¬ (64 : Int) < (n : Int) := by omega
    go_wp2_with fail
    go_loopw [8, 9, 31, 32, 33, 34, 35, 36, 37, 38, 39, 40, 41, 42, 43, 44, 45, 46, 47] (fun s8 _ _ _ _ _ _ _ _ _ _ _ _ _ _ _ _ _ _ wr => ∃ (k : Nat) (L : List Vt) (st : St) (sv : Value), k ≤ n ∧ s8 = .int .i64 k ∧ Hid (ReadAt xs n s3 k L st) ∧ Hid (Ec w wr q B p s xs st ⟨h1, h2, []⟩ sv L)) (fun s8 _ _ _ _ _ _ _ _ _ _ _ _ _ _ _ _ _ _ _ => n - (intOf s8).toNat)
    case atStart => exact ⟨0, [], s3, vZ, by omega, rfl, Lib.hid (ReadAt.zero _ _ _), HD⟩
    case round =>
      clear HD
      obtain ⟨k, L, st, sv, hk, rfl, hA, hD⟩ := hrel
      have HA := hA
      have HD := hD
      clear hA hD
      by_cases hlt : k < n
      · have HLT := Lib.hid hlt
        go_wp2_with fail
        refine (rNum_any HD.out.r).mono ?_
        rintro e w7 ⟨u, rfl, rfl, r7, k7⟩
        have HD := Lib.hid (show Ec w w7 q B p s xs (sNum xs st).2 ⟨h1, h2, []⟩ sv L from HD.out.did r7 k7)
        clear r7 k7
        rw [show step (numP xs) 0 st = sNum xs st from rfl]
        have HQ := Lib.hid (HA.out.next hlt)
        obtain ⟨pn, hpn⟩ : ∃ pn, pn = (sNum xs st).1 := ⟨_, rfl⟩
        rw [← hpn] at HQ ⊢
        clear hpn
        generalize (sNum xs st).2 = st1 at *
        have HX := Lib.hid (show (w7.alloc (.cells #[.int .i64 (pn : Int), .int .u64 0] 29)).heap[w7.heap.size]? = some _ from kb_new rfl _)
        have hvq := fun b hb => (HD.out.o.lt b hb).2
        have hzq := HD.out.b.size
        have hcq := kb_lt HD.out.c0
        have hpq := HD.out.lp
        have HD := Lib.hid (HD.out.below (bl_alloc (Below.refl _ w7) (.cells #[.int .i64 (pn : Int), .int .u64 0] 29)))
        have HV := Lib.hid (And.intro hcq (And.intro hpq hvq))
        clear hpq hvq hzq hcq
        go_wp2_with fail
        refine (rWord_any' HD.out.r).mono ?_
        rintro e w8 ⟨u, rfl, rfl, r8, k8⟩
        have HX := Lib.hid (k8.kb HX.out (by have := HV.out.1; have := HV.out.2.1; omega))
        have HD := Lib.hid (show Ec w w8 q B p s xs (sWord xs st1).2 ⟨h1, h2, []⟩ sv L from HD.out.did r8 k8)
        clear r8 k8
        rw [show step (fun a => takeP xs 8 a a bigL) 0 st1 = sWord xs st1 from rfl]
        obtain ⟨gn, hgn⟩ : ∃ gn, gn = (sWord xs st1).1 := ⟨_, rfl⟩
        rw [← hgn] at HQ ⊢
        clear hgn
        generalize (sWord xs st1).2 = st2 at *
        have x1 := kb_cell HX.out 1
        simp at x1
        have z1 := kb_frozen HX.out 1
        have X1 := kb_set (i := 1) HX.out (.int .u64 (gn : Int))
        have HD := Lib.hid (HD.out.setq (y := w7.heap.size) (i := 1) (u := .int .u64 (gn : Int)) HV.out.1 (fun b hb => by have := HV.out.2.2 b hb; omega))
        have X2 : (w8.setCell ⟨w7.heap.size, 1, none⟩ (.int .u64 (gn : Int))).heap[w7.heap.size]? = some (.cells #[.int .i64 (pn : Int), .int .u64 (gn : Int)] 29 (0, 0)) := by simpa using X1
        obtain ⟨y0, y1⟩ := vt_boxed (x := ⟨pn, gn⟩) X2
        have e33 := (kb_cell HD.out.c0 33).trans (by simpa using ccs_33 HD.out.x sv)
        have hLk := HA.out.2
        obtain ⟨A3, c3, hsv⟩ := owns_slice0 HD.out.o
        subst hsv
        have ho := HD.out.o.alloc (.cells #[.int .i64 (pn : Int), .int .u64 (gn : Int)] 29)
        have hlr := lit_row (w8.setCell ⟨w7.heap.size, 1, none⟩ (.int .u64 (gn : Int))) ⟨pn, gn⟩
        rw [World.size_setCell] at hlr
        have HLR := Lib.hid hlr
        clear hlr
        have hbs := HD.out.b.size
        have hcq := kb_lt HD.out.c0
        clear X1 X2
        rw [hLk] at ho
        go_wp2_with (at_builtin; refine wpList_append_v _ rfl _ _ rfl (q + 1) _ _ _ rfl ho _ [⟨pn, gn⟩] rfl HLR.out ?c3 ?c4 ?_)
        case c3 => simp; omega
        case c4 => simp at hcq ⊢; omega
        intro v' w10 hown' hgrow _
        obtain ⟨A6, c6, rfl⟩ := owns_slice0 hown'
        obtain ⟨D9, d33, z33⟩ := HD.out.app (W' := w10) (x := ⟨pn, gn⟩) (A := A6) (n := k + 1) (k := c6) (by rw [hLk]; exact hown') (by rw [hLk]; exact hgrow)
        obtain ⟨dv, hdv⟩ := Option.isSome_iff_exists.1 d33
        have HD := Lib.hid D9
        clear hown' hgrow D9 d33 ho
        go_wp2_with fail
        go_roundw
        case rel => exact ⟨k + 1, _, st2, _, by have := HLT.out; omega, by go_num, Lib.hid HQ.out, HD⟩
        case measure => simp [intOf]; omega
      · obtain rfl : k = n := by omega
        have h4 : dec4 xs = (L, st) := by rw [H3.out]; exact HA.out.end
        have HC := Lib.hid (show decC xs = ⟨h1, h2, L⟩ by rw [HC.out, h4])
        have HF := Lib.hid (show decF xs = if endS xs st = (0, 0) then (chk (decC xs), 0) else endS xs st by rw [HF.out, if_neg h64, h4])
        clear h4
        go_wp2_with fail
        refine (rEnd_any HD.out.r).mono ?_
        rintro e w7 ⟨rfl, b7⟩
        have HD := Lib.hid (HD.out.below b7)
        clear b7
        obtain ⟨e1, he1⟩ : ∃ e1, e1 = (endS xs st).1 := ⟨_, rfl⟩
        obtain ⟨e2, he2⟩ : ∃ e2, e2 = (endS xs st).2 := ⟨_, rfl⟩
        rw [← he1, ← he2]
        have HES := Lib.hid (show endS xs st = (e1, e2) by rw [he1, he2])
        clear he1 he2
        have HEZ := Lib.hid (show e1 = 0 → e2 = 0 by
          have hh := end_zero HD.out.r
          rw [HES.out] at hh
          exact hh)
        have HE := Lib.hid (HD.out.fault (e1 : Int) (e2 : Int))
        generalize hg : w7.heap.size = g at *
        obtain ⟨g0, g1, y0, y1⟩ := flt_cells HE.out.f0
        by_cases hz : e1 = 0
        · subst hz
          obtain rfl : e2 = 0 := HEZ.out rfl
          have HF := Lib.hid (show decF xs = (chk (decC xs), 0) by rw [HF.out, if_pos HES.out])
          go_upto_region 17 with fail
          refine wp_world fun w9 hw9 => ?_
          have HE := Lib.hid (show Ef w w9 q g cZ vZ ⟨h1, h2, []⟩ sv L ((0 : Nat) : Int) ((0 : Nat) : Int) by rw [hw9]; exact HE.out)
          clear hw9 g0 g1 y0 y1
          go_wp2_with (with_reducible refine wpList_load_cw _ rfl (by kernel_rfl) _ rfl HE.out.c0 HE.out.x ?_)
          have hck : Calls Try.prog 37 #[.agg (ccs ⟨h1, h2, []⟩ sv).toArray] w9 (ChkOut ⟨h1, h2, L⟩ w9) := rCheck_any' (c := ⟨h1, h2, L⟩) HE.out.x (VRow.of_own HE.out.o) (by rw [HA.out.2]; omega)
          refine hck.mono ?_
          rintro e w8 ⟨rfl, b8⟩
          rw [← HC.out]
          have HE := Lib.hid (HE.out.below b8)
          clear b8 hck
          obtain ⟨f0, f1, z0, z1⟩ := flt_cells HE.out.f0
          obtain ⟨ck, hck⟩ : ∃ ck, ck = chk (decC xs) := ⟨_, rfl⟩
          rw [← hck] at HF ⊢
          have HE := Lib.hid (HE.out.set0 (ck : Int))
          by_cases hc0 : ck = 0
          · subst hc0
            clear hck
            obtain ⟨g0, g1, y0, y1⟩ := flt_cells HE.out.f0
            go_wp2_with fail
            clear f0 f1 z0 z1 g0 g1 y0 y1
            have HE := Lib.hid (HE.out.below (bl_drew (Below.refl _ _)))
            obtain ⟨f0, f1, z0, z1⟩ := flt_cells HE.out.f0
            refine wp_region_held_drew (S := (fun W : World => W.rangeAt q 0 (ccs ⟨h1, h2, []⟩ sv) ∧ W.cell? ⟨g, 0, none⟩ = some (.int .i64 ((0 : Nat) : Int)) ∧ W.cell? ⟨g, 1, none⟩ = some (.int .i64 ((0 : Nat) : Int)))) (by kernel_rfl) ⟨range_of_kb HE.out.c0, f0, f1⟩ (fun hHeld => ?_)
            refine wpAnyH_take (i := 0) (oi := { dst := some 61, op := _, type := _, pos := _, after := _, guard := _ }) (v := _) rfl (by kernel_rfl) (by kernel_rfl) (by kernel_rfl) (fun _ _ _ h => h) (yieldsIf_load_mid (by rfl) 26 _ rfl q 0 rfl (ccs ⟨h1, h2, []⟩ sv) _ (fun _ h => h.1) Try.underlying26 rfl (sizeC.trans (ccs_lenA HE.out.x).symm)) hHeld ?_
            try simp only [Act.put, List.setIfInBounds_toArray, List.set_cons_zero, List.set_cons_succ]
            refine wpAnyH_take (i := 1) (oi := { dst := some 62, op := _, type := _, pos := _, after := _, guard := _ }) (v := ?_) rfl (by kernel_rfl) (by kernel_rfl) (by kernel_rfl) (fun _ _ _ h => h) (Or.inl ⟨by rfl, ?_⟩) hHeld ?_
            rotate_left
            · (intro w hSw; (try dsimp only at hSw); go_simp); all_goals with_reducible rfl
            try simp only [Act.put, List.setIfInBounds_toArray, List.set_cons_zero, List.set_cons_succ]
            refine wpAnyH_ready (rs := [2]) (by kernel_rfl) (by simp) (AllReadyH.cons (o := _) rfl (fun K hK => ?_) AllReadyH.nil)
            refine step_store_c rfl _ _ rfl _ rfl rfl HE.out.r0 (by simpa using ccs_len cZ_x _) HE.out.x (own1 HE.out.o) ?_
            intro w21 g21 k21
            have HE := Lib.hid (HE.out.store HE.out.x g21 k21)
            clear f0 f1 z0 z1
            obtain ⟨f0, f1, z0, z1⟩ := flt_cells HE.out.f0
            refine hK.out _ _ ⟨range_of_kb HE.out.c0, f0, f1⟩ (fun hHeld => ?_)
            clear hK K g21 k21
            obtain ⟨r0, r1, x0, x1⟩ := flt_cells HE.out.r1
            refine wpAnyH_ready (rs := [3]) (by kernel_rfl) (by simp) (AllReadyH.cons (o := _) rfl (fun K hK => ?_) AllReadyH.nil)
            go_simp
            obtain ⟨f0', f1', _, _⟩ := flt_cells HE.out.kept.1
            refine hK.out _ _ ⟨range_of_kb HE.out.kept.2, f0', f1'⟩ (fun hHeld => ?_)
            have HE := Lib.hid (HE.out.last (owns_mono HE.out.o (by have := HE.out.lq; omega)))
            clear hK K
            refine wpAnyH_done (by kernel_rfl) ?_ _
            clear hHeld f0 f1 z0 z1 f0' f1' r0 r1 x0 x1
            go_wp2_with fail
            refine bodyPost_ret (results_cf rfl _ _ w.heap.size (w.heap.size + 1) HE.out.x rfl HE.out.c0 rfl HE.out.c1) rfl ?_
            exact HE.out.out (by rw [HF.out]; exact ⟨rfl, rfl⟩) (by rw [HR.out, HF.out, if_pos rfl, HC.out]; exact ⟨rfl, rfl⟩) rfl
          · clear hck
            have hne : ((ck : Int) != 0) = true := by simpa using hc0
            obtain ⟨g0, g1, y0, y1⟩ := flt_cells HE.out.f0
            have HNZ := Lib.hid hc0
            clear hc0
            go_wp2_with fail
            clear f0 f1 z0 z1 g0 g1 y0 y1 hne
            have HE := Lib.hid (HE.out.below (bl_drew (Below.refl _ _)))
            obtain ⟨f0, f1, z0, z1⟩ := flt_cells HE.out.f0
            refine wp_region_held_drew (S := (fun W : World => W.cell? ⟨g, 0, none⟩ = some (.int .i64 (ck : Int)) ∧ W.cell? ⟨g, 1, none⟩ = some (.int .i64 ((0 : Nat) : Int)))) (by kernel_rfl) ⟨f0, f1⟩ (fun hHeld => ?_)
            refine wpAnyH_take (i := 0) (oi := { dst := some 59, op := _, type := _, pos := _, after := _, guard := _ }) (v := ?_) rfl (by kernel_rfl) (by kernel_rfl) (by kernel_rfl) (fun _ _ _ h => h) (Or.inl ⟨by rfl, ?_⟩) hHeld ?_
            rotate_left
            · (intro w hSw; (try dsimp only at hSw); go_simp); all_goals with_reducible rfl
            try simp only [Act.put, List.setIfInBounds_toArray, List.set_cons_zero, List.set_cons_succ]
            refine wpAnyH_take (i := 1) (oi := { dst := some 60, op := _, type := _, pos := _, after := _, guard := _ }) (v := ?_) rfl (by kernel_rfl) (by kernel_rfl) (by kernel_rfl) (fun _ _ _ h => h) (Or.inl ⟨by rfl, ?_⟩) hHeld ?_
            rotate_left
            · (intro w hSw; (try dsimp only at hSw); go_simp); all_goals with_reducible rfl
            try simp only [Act.put, List.setIfInBounds_toArray, List.set_cons_zero, List.set_cons_succ]
            clear f0 f1 z0 z1
            refine wpAnyH_ready (rs := [2]) (by kernel_rfl) (by simp) (AllReadyH.cons (o := _) rfl (fun K hK => ?_) AllReadyH.nil)
            refine step_store_c rfl _ _ rfl _ rfl (congrArg Value.agg zeroC) HE.out.r0 (by simpa using ccs_len cZ_x _) cZ_x rfl ?_
            intro w21 g21 k21
            have HE := Lib.hid (HE.out.store cZ_x g21 k21)
            obtain ⟨f0, f1, z0, z1⟩ := flt_cells HE.out.f0
            refine hK.out _ _ ⟨f0, f1⟩ (fun hHeld => ?_)
            clear hK K g21 k21
            obtain ⟨r0, r1, x0, x1⟩ := flt_cells HE.out.r1
            refine wpAnyH_ready (rs := [3]) (by kernel_rfl) (by simp) (AllReadyH.cons (o := _) rfl (fun K hK => ?_) AllReadyH.nil)
            go_simp
            obtain ⟨f0', f1', _, _⟩ := flt_cells HE.out.kept.1
            refine hK.out _ _ ⟨f0', f1'⟩ (fun hHeld => ?_)
            have HE := Lib.hid (HE.out.last (L' := []) (World.ownsRow_nil _ _ _ _))
            clear hK K
            refine wpAnyH_done (by kernel_rfl) ?_ _
            clear hHeld f0 f1 z0 z1 f0' f1' r0 r1 x0 x1
            go_wp2_with fail
            refine bodyPost_ret (results_cf rfl _ _ w.heap.size (w.heap.size + 1) cZ_x rfl HE.out.c0 rfl HE.out.c1) rfl ?_
            exact HE.out.out (by rw [HF.out]; exact ⟨rfl, rfl⟩) (by rw [HR.out, HF.out, if_neg (fun h => HNZ.out (congrArg Prod.fst h))]; exact ⟨rfl, rfl⟩) rfl
        · have hne : ((e1 : Int) != 0) = true := by simpa using hz
          have hne2 : ((e1 : Int) == 0) = false := by simpa using hz
          have HNZ := Lib.hid (show (e1, e2) ≠ (0, 0) from fun h => hz (congrArg Prod.fst h))
          have HF := Lib.hid (show decF xs = (e1, e2) by rw [HF.out, HES.out, if_neg HNZ.out])
          clear hz
          go_wp2_with fail
          clear g0 g1 y0 y1 hne hne2
          have HE := Lib.hid (HE.out.below (bl_drew (Below.refl _ _)))
          obtain ⟨f0, f1, z0, z1⟩ := flt_cells HE.out.f0
          refine wp_region_held_drew (S := (fun W : World => W.cell? ⟨g, 0, none⟩ = some (.int .i64 (e1 : Int)) ∧ W.cell? ⟨g, 1, none⟩ = some (.int .i64 (e2 : Int)))) (by kernel_rfl) ⟨f0, f1⟩ (fun hHeld => ?_)
          refine wpAnyH_take (i := 0) (oi := { dst := some 59, op := _, type := _, pos := _, after := _, guard := _ }) (v := ?_) rfl (by kernel_rfl) (by kernel_rfl) (by kernel_rfl) (fun _ _ _ h => h) (Or.inl ⟨by rfl, ?_⟩) hHeld ?_
          rotate_left
          · (intro w hSw; (try dsimp only at hSw); go_simp); all_goals with_reducible rfl
          try simp only [Act.put, List.setIfInBounds_toArray, List.set_cons_zero, List.set_cons_succ]
          refine wpAnyH_take (i := 1) (oi := { dst := some 60, op := _, type := _, pos := _, after := _, guard := _ }) (v := ?_) rfl (by kernel_rfl) (by kernel_rfl) (by kernel_rfl) (fun _ _ _ h => h) (Or.inl ⟨by rfl, ?_⟩) hHeld ?_
          rotate_left
          · (intro w hSw; (try dsimp only at hSw); go_simp); all_goals with_reducible rfl
          try simp only [Act.put, List.setIfInBounds_toArray, List.set_cons_zero, List.set_cons_succ]
          clear f0 f1 z0 z1
          refine wpAnyH_ready (rs := [2]) (by kernel_rfl) (by simp) (AllReadyH.cons (o := _) rfl (fun K hK => ?_) AllReadyH.nil)
          refine step_store_c rfl _ _ rfl _ rfl (congrArg Value.agg zeroC) HE.out.r0 (by simpa using ccs_len cZ_x _) cZ_x rfl ?_
          intro w21 g21 k21
          have HE := Lib.hid (HE.out.store cZ_x g21 k21)
          obtain ⟨f0, f1, z0, z1⟩ := flt_cells HE.out.f0
          refine hK.out _ _ ⟨f0, f1⟩ (fun hHeld => ?_)
          clear hK K g21 k21
          obtain ⟨r0, r1, x0, x1⟩ := flt_cells HE.out.r1
          refine wpAnyH_ready (rs := [3]) (by kernel_rfl) (by simp) (AllReadyH.cons (o := _) rfl (fun K hK => ?_) AllReadyH.nil)
          go_simp
          obtain ⟨f0', f1', _, _⟩ := flt_cells HE.out.kept.1
          refine hK.out _ _ ⟨f0', f1'⟩ (fun hHeld => ?_)
          have HE := Lib.hid (HE.out.last (L' := []) (World.ownsRow_nil _ _ _ _))
          clear hK K
          refine wpAnyH_done (by kernel_rfl) ?_ _
          clear hHeld f0 f1 z0 z1 f0' f1' r0 r1 x0 x1
          go_wp2_with fail
          refine bodyPost_ret (results_cf rfl _ _ w.heap.size (w.heap.size + 1) cZ_x rfl HE.out.c0 rfl HE.out.c1) rfl ?_
          exact HE.out.out (by rw [HF.out]; exact ⟨rfl, rfl⟩) (by rw [HR.out, HF.out, if_neg HNZ.out]; exact ⟨rfl, rfl⟩) rfl
end Go.Proofs.Ytooghjnddifpdaa
