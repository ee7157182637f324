/- What peers answer, up to which NaN: each method over providers as plain data, both sides. -/
import Derived.Test.YtlnhofpjeinadaaPee18
namespace Go.Proofs.Ytlnhofpjeinadaa
open Go.RowKit Go.Proofs.Ytlnhofpjeinadaa.Pc BigFrame
set_option linter.unusedSimpArgs false
set_option linter.unusedVariables false

/-- Providers in memory, up to which NaN. -/
def QX (T1 T2 : TypeId) (lay : Pr → List Value) (w : World) (q g : Nat) (R : List Pr) : Prop := ∃ L, PX T1 T2 lay w q g L ∧ Alk L R
section
variable {T1 T2 : TypeId} {lay : Pr → List Value} {w w' : World} {q g : Nat} {R : List Pr}
theorem QX.of (h : PX T1 T2 lay w q g R) : QX T1 T2 lay w q g R := ⟨R, h, Alk.refl R⟩
theorem QX.keep {S : Nat → Prop} (h : QX T1 T2 lay w q g R) (k : Keep S w w') (hq : ¬ S q) (hg : ¬ S g) : QX T1 T2 lay w' q g R := by
  obtain ⟨L, F, A⟩ := h
  exact ⟨L, F.keep k hq hg, A⟩
theorem QX.below (h : QX T1 T2 lay w q g R) (k : Below w.heap.size w w') : QX T1 T2 lay w' q g R := by
  obtain ⟨L, F, A⟩ := h
  exact ⟨L, F.below k, A⟩
theorem QX.ltg (h : QX T1 T2 lay w q g R) : g < w.heap.size := by obtain ⟨L, F, A⟩ := h; exact F.ltg
theorem QX.ltq (h : QX T1 T2 lay w q g R) : q < w.heap.size := by obtain ⟨L, F, A⟩ := h; exact F.ltq
theorem QX.hi (h : QX T1 T2 lay w q g R) : R.length ≤ 16 := by obtain ⟨L, F, A⟩ := h; rw [← A.len]; exact F.hi
theorem QX.pos (h : QX T1 T2 lay w q g R) : 1 ≤ R.length := by obtain ⟨L, F, A⟩ := h; rw [← A.len]; exact F.pos
theorem QX.st (h : QX T1 T2 lay w q g R) : ∃ cap, w.heap[q]? = some (.cells #[.slice (some ⟨g, 0, none⟩) R.length cap] T1) := by obtain ⟨L, F, A⟩ := h; rw [← A.len]; exact F.st
end
abbrev PQ := QX 80 71 layP
abbrev RQ := QX 87 89 layR
theorem ofs_len_alk {L R : List Pr} (h : Alk L R) (role : Int) : (ofs L role).length = (ofs R role).length := by rw [← allI_len, ← allI_len, allI_alk h]
/-- A merit, up to which NaN. -/
def merA (R : List Pr) (who : Int) : Pr := if isP R who then prA R who else prZ
def MerQ (R : List Pr) (who : Int) (v : Value) : Prop := ∃ p, v = .agg #[.int .i64 (merA R who).s, .float .f64 p] ∧ canon p = canon (merA R who).p
theorem merQ_of {L R : List Pr} (h : Alk L R) (who : Int) : MerQ R who (meritV L who) := by
  unfold MerQ meritV merA
  rw [← isP_alk h]
  split
  · exact ⟨_, by rw [← (prA_alk h who).s]; rfl, (prA_alk h who).p⟩
  · exact ⟨_, rfl, rfl⟩

theorem strikeE_alk {L R : List Pr} (h : Alk L R) (who : Int) : strikeE L who = strikeE R who := by unfold strikeE; rw [isP_alk h]
theorem qRole_q {w : World} {q g : Nat} {R : List Pr} (h : PQ w q g R) (who : Int) : Calls Try.prog 48 #[.pointer (some ⟨q, 0, none⟩), .int .i64 who] w fun e w' => e = .returned (.int .i64 (roleI R who)) ∧ w = w' := by
  obtain ⟨L, F, A⟩ := h
  rw [← roleI_alk A]
  exact Role_any F who
theorem qStrikes_q {w : World} {q g : Nat} {R : List Pr} (h : PQ w q g R) (who : Int) : Calls Try.prog 14 #[.pointer (some ⟨q, 0, none⟩), .int .i64 who] w fun e w' => e = .returned (.int .i64 (strikesI R who)) ∧ w = w' := by
  obtain ⟨L, F, A⟩ := h
  rw [← strikesI_alk A]
  exact Strikes_any F who
theorem qPrimary_q {w : World} {q g : Nat} {R : List Pr} (h : PQ w q g R) : Calls Try.prog 29 #[.pointer (some ⟨q, 0, none⟩)] w fun e w' => e = .returned (.int .i64 (bestI R 3)) ∧ Below w.heap.size w w' := by
  obtain ⟨L, F, A⟩ := h
  rw [← bestI_alk A]
  exact Primary_any F
theorem qRoles_q {w : World} {q g : Nat} {R : List Pr} (h : PQ w q g R) : Calls Try.prog 28 #[.pointer (some ⟨q, 0, none⟩)] w fun e w' => ∃ v, e = .returned v ∧ w'.ownsRow w.heap.size 3 1 v R.length (intVs (rolesI R)) ∧ Below w.heap.size w w' := by
  obtain ⟨L, F, A⟩ := h
  rw [← rolesI_alk A, ← A.len]
  exact Roles_any F
theorem qAll_q {w : World} {q g : Nat} {R : List Pr} (h : PQ w q g R) (role : Int) : Calls Try.prog 9 #[.pointer (some ⟨q, 0, none⟩), .int .i64 role] w fun e w' => ∃ v, e = .returned v ∧ w'.ownsRow w.heap.size 3 1 v (ofs R role).length (intVs (allI R role)) ∧ Below w.heap.size w w' := by
  obtain ⟨L, F, A⟩ := h
  rw [← allI_alk A, ← ofs_len_alk A]
  exact All_any F role
theorem qMerit_q {w : World} {q g : Nat} {R : List Pr} (h : PQ w q g R) (who : Int) : Calls Try.prog 12 #[.pointer (some ⟨q, 0, none⟩), .int .i64 who] w fun e w' => ∃ v, e = .returned (.tuple #[v, .bool (isP R who)]) ∧ MerQ R who v ∧ Below w.heap.size w w' := by
  obtain ⟨L, F, A⟩ := h
  refine (Merit_any F who).mono ?_
  rintro e w' ⟨rfl, hb⟩
  exact ⟨_, by rw [isP_alk A], merQ_of A who, hb⟩
theorem qMove_q {w : World} {q g : Nat} {R : List Pr} (h : PQ w q g R) (who role : Int) : Calls Try.prog 10 #[.pointer (some ⟨q, 0, none⟩), .int .i64 who, .int .i64 role] w fun e w' => e = .returned (.int .i64 (moveE R who role)) ∧ PQ w' q g (moveL R who role) ∧ Keep (fun b => b = g) w w' := by
  obtain ⟨L, F, A⟩ := h
  refine (Move_any F who role).mono ?_
  rintro e w' ⟨rfl, F', k⟩
  exact ⟨by rw [moveE_alk A], ⟨_, F', moveL_alk A who role⟩, k⟩
theorem qNext_q {w : World} {q g : Nat} {R : List Pr} (h : PQ w q g R) : Calls Try.prog 17 #[.pointer (some ⟨q, 0, none⟩)] w fun e w' => e = .returned (.int .i64 (nextI R)) ∧ PQ w' q g (nextL R) ∧ Keep (fun b => b = g) w w' := by
  obtain ⟨L, F, A⟩ := h
  refine (Next_any F).mono ?_
  rintro e w' ⟨rfl, F', k⟩
  exact ⟨by rw [nextI_alk A], ⟨_, F', nextL_alk A⟩, k⟩
theorem qFill_q {w : World} {q g : Nat} {R : List Pr} (h : PQ w q g R) (most : Int) (j : Nat) (hj : fills most (fillL most R j) = false) : Calls Try.prog 30 #[.pointer (some ⟨q, 0, none⟩), .int .i64 most] w fun e w' => ∃ v, e = .returned v ∧ w'.ownsRow w.heap.size 3 1 v (fillI most R j).length (intVs (fillI most R j)) ∧ PQ w' q g (fillL most R j) ∧ Keep (fun b => b = g) w w' := by
  obtain ⟨L, F, A⟩ := h
  refine (Fill_any F most).mono ?_
  rintro e w' ⟨k, v, rfl, hf, ho, F', K⟩
  rw [fills_alk (fillL_alk A most k)] at hf
  obtain ⟨e1, e2⟩ := fill_one hf hj
  have e3 : fillI most L k = fillI most R j := by rw [fillI_alk A, e2]
  rw [e3] at ho
  have hk : k = (fillI most R j).length := by have := ho.1; simp [intVs] at this; omega
  rw [hk] at ho
  exact ⟨v, rfl, ho, ⟨_, F', by rw [← e1]; exact fillL_alk A most k⟩, K⟩
theorem qStrike_q {w : World} {q g : Nat} {R : List Pr} (h : PQ w q g R) (who : Int) : Calls Try.prog 11 #[.pointer (some ⟨q, 0, none⟩), .int .i64 who] w fun e w' => e = .returned (.tuple #[.int .i64 (strikeI R who), .int .i64 (strikeE R who)]) ∧ PQ w' q g (strikeL R who) ∧ Keep (fun b => b = g) w w' := by
  obtain ⟨L, F, A⟩ := h
  refine (Strike_any F who).mono ?_
  rintro e w' ⟨L', rfl, A', F', k⟩
  exact ⟨by rw [strikeI_alk A, strikeE_alk A], ⟨_, F', A'.trans (strikeL_alk A who)⟩, k⟩
theorem qPraise_q {w : World} {q g : Nat} {R : List Pr} (h : PQ w q g R) (who t : Int) : Calls Try.prog 13 #[.pointer (some ⟨q, 0, none⟩), .int .i64 who, .int .i64 t] w fun e w' => e = .returned (.int .i64 (praiseE R who t)) ∧ PQ w' q g (praiseL R who t) ∧ Keep (fun b => b = g) w w' := by
  obtain ⟨L, F, A⟩ := h
  refine (Praise_any F who t).mono ?_
  rintro e w' ⟨L', rfl, A', F', k⟩
  exact ⟨by rw [praiseE_alk A], ⟨_, F', A'.trans (praiseL_alk A who t)⟩, k⟩

theorem rRole_q {w : World} {q g : Nat} {R : List Pr} (h : RQ w q g R) (who : Int) : Calls Try.prog 49 #[.pointer (some ⟨q, 0, none⟩), .int .i64 who] w fun e w' => e = .returned (.int .i64 (roleI R who)) ∧ w = w' := by
  obtain ⟨L, F, A⟩ := h
  rw [← roleI_alk A]
  exact rRole_any F who
theorem rStrikes_q {w : World} {q g : Nat} {R : List Pr} (h : RQ w q g R) (who : Int) : Calls Try.prog 50 #[.pointer (some ⟨q, 0, none⟩), .int .i64 who] w fun e w' => e = .returned (.int .i64 (strikesI R who)) ∧ w = w' := by
  obtain ⟨L, F, A⟩ := h
  rw [← strikesI_alk A]
  exact rStrikes_any F who
theorem rPrimary_q {w : World} {q g : Nat} {R : List Pr} (h : RQ w q g R) : Calls Try.prog 47 #[.pointer (some ⟨q, 0, none⟩)] w fun e w' => e = .returned (.int .i64 (bestI R 3)) ∧ Below w.heap.size w w' := by
  obtain ⟨L, F, A⟩ := h
  rw [← bestI_alk A]
  exact rPrimary_any F
theorem rRoles_q {w : World} {q g : Nat} {R : List Pr} (h : RQ w q g R) : Calls Try.prog 46 #[.pointer (some ⟨q, 0, none⟩)] w fun e w' => ∃ v, e = .returned v ∧ w'.ownsRow w.heap.size 3 1 v R.length (intVs (rolesI R)) ∧ Below w.heap.size w w' := by
  obtain ⟨L, F, A⟩ := h
  rw [← rolesI_alk A, ← A.len]
  exact rRoles_any F
theorem rAll_q {w : World} {q g : Nat} {R : List Pr} (h : RQ w q g R) (role : Int) : Calls Try.prog 53 #[.pointer (some ⟨q, 0, none⟩), .int .i64 role] w fun e w' => ∃ v, e = .returned v ∧ w'.ownsRow w.heap.size 3 1 v (ofs R role).length (intVs (allI R role)) ∧ Below w.heap.size w w' := by
  obtain ⟨L, F, A⟩ := h
  rw [← allI_alk A, ← ofs_len_alk A]
  exact rAll_any F role
theorem rMerit_q {w : World} {q g : Nat} {R : List Pr} (h : RQ w q g R) (who : Int) : Calls Try.prog 52 #[.pointer (some ⟨q, 0, none⟩), .int .i64 who] w fun e w' => ∃ v, e = .returned (.tuple #[v, .bool (isP R who)]) ∧ MerQ R who v ∧ Below w.heap.size w w' := by
  obtain ⟨L, F, A⟩ := h
  refine (rMerit_any F who).mono ?_
  rintro e w' ⟨rfl, hb⟩
  exact ⟨_, by rw [isP_alk A], merQ_of A who, hb⟩
theorem rMove_q {w : World} {q g : Nat} {R : List Pr} (h : RQ w q g R) (who role : Int) : Calls Try.prog 54 #[.pointer (some ⟨q, 0, none⟩), .int .i64 who, .int .i64 role] w fun e w' => e = .returned (.int .i64 (moveE R who role)) ∧ RQ w' q g (moveL R who role) ∧ Keep (fun b => b = g) w w' := by
  obtain ⟨L, F, A⟩ := h
  refine (rMove_any F who role).mono ?_
  rintro e w' ⟨rfl, F', k⟩
  exact ⟨by rw [moveE_alk A], ⟨_, F', moveL_alk A who role⟩, k⟩
theorem rNext_q {w : World} {q g : Nat} {R : List Pr} (h : RQ w q g R) : Calls Try.prog 55 #[.pointer (some ⟨q, 0, none⟩)] w fun e w' => e = .returned (.int .i64 (nextI R)) ∧ RQ w' q g (nextL R) ∧ Keep (fun b => b = g) w w' := by
  obtain ⟨L, F, A⟩ := h
  refine (rNext_any F).mono ?_
  rintro e w' ⟨rfl, F', k⟩
  exact ⟨by rw [nextI_alk A], ⟨_, F', nextL_alk A⟩, k⟩
theorem rFill_q {w : World} {q g : Nat} {R : List Pr} (h : RQ w q g R) (most : Int) (j : Nat) (hj : fills most (fillL most R j) = false) : Calls Try.prog 45 #[.pointer (some ⟨q, 0, none⟩), .int .i64 most] w fun e w' => ∃ v, e = .returned v ∧ w'.ownsRow w.heap.size 3 1 v (fillI most R j).length (intVs (fillI most R j)) ∧ RQ w' q g (fillL most R j) ∧ Keep (fun b => b = g) w w' := by
  obtain ⟨L, F, A⟩ := h
  refine (rFill_any F most).mono ?_
  rintro e w' ⟨k, v, rfl, hf, ho, F', K⟩
  rw [fills_alk (fillL_alk A most k)] at hf
  obtain ⟨e1, e2⟩ := fill_one hf hj
  have e3 : fillI most L k = fillI most R j := by rw [fillI_alk A, e2]
  rw [e3] at ho
  have hk : k = (fillI most R j).length := by have := ho.1; simp [intVs] at this; omega
  rw [hk] at ho
  exact ⟨v, rfl, ho, ⟨_, F', by rw [← e1]; exact fillL_alk A most k⟩, K⟩
theorem rStrike_q {w : World} {q g : Nat} {R : List Pr} (h : RQ w q g R) (who : Int) : Calls Try.prog 56 #[.pointer (some ⟨q, 0, none⟩), .int .i64 who] w fun e w' => e = .returned (.tuple #[.int .i64 (strikeI R who), .int .i64 (strikeE R who)]) ∧ RQ w' q g (strikeL R who) ∧ Keep (fun b => b = g) w w' := by
  obtain ⟨L, F, A⟩ := h
  refine (rStrike_any F who).mono ?_
  rintro e w' ⟨L', rfl, A', F', k⟩
  exact ⟨by rw [strikeI_alk A, strikeE_alk A], ⟨_, F', A'.trans (strikeL_alk A who)⟩, k⟩
theorem rPraise_q {w : World} {q g : Nat} {R : List Pr} (h : RQ w q g R) (who t : Int) : Calls Try.prog 57 #[.pointer (some ⟨q, 0, none⟩), .int .i64 who, .int .i64 t] w fun e w' => e = .returned (.int .i64 (praiseE R who t)) ∧ RQ w' q g (praiseL R who t) ∧ Keep (fun b => b = g) w w' := by
  obtain ⟨L, F, A⟩ := h
  refine (rPraise_any F who t).mono ?_
  rintro e w' ⟨L', rfl, A', F', k⟩
  exact ⟨by rw [praiseE_alk A], ⟨_, F', A'.trans (praiseL_alk A who t)⟩, k⟩

/-- Somewhere filling ends. -/
theorem fills_end (most : Int) (R : List Pr) : ∃ j, fills most (fillL most R j) = false := by
  suffices h : ∀ n j, (ofs (fillL most R j) 1).length ≤ n → ∃ j, fills most (fillL most R j) = false from h _ 0 (Nat.le_refl _)
  intro n
  induction n with
  | zero =>
    intro j hj
    cases hf : fills most (fillL most R j)
    · exact ⟨j, hf⟩
    · have := fill_less hf
      omega
  | succ n ih =>
    intro j hj
    cases hf : fills most (fillL most R j)
    · exact ⟨j, hf⟩
    · have := fill_less hf
      exact ih (j + 1) (by omega)
end Go.Proofs.Ytlnhofpjeinadaa
