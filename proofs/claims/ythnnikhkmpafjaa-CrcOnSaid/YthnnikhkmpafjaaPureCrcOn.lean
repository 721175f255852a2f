/- Words that are unlike are unlike any number of bytes on; so many bytes on and so many more are all of these on; and the exclusive or of two words goes on as both do. No condition beyond the statement's own guard. -/
import Derived.Test.YthnnikhkmpafjaaCrcPl
namespace Go.Proofs.Ythnnikhkmpafjaa.Pure
open Go.RowKit Go.Proofs.Ythnnikhkmpafjaa Go.Proofs.Ythnnikhkmpafjaa.PAll Go.Proofs.YthnnikhkmpafjaaW.PrintWords Go.Proofs.YthnnikhkmpafjaaW.PrintLast
theorem CrcOn : bytebarnlaw03_CrcOn.Pure := by
  intro a b m n ha hb hm hn
  have wfu : ∀ x : Int, (Lit.int .u32 x).wf = true → 0 ≤ x ∧ x < 4294967296 := fun x h => by
    simp [Lit.wf, IntKind.min, IntKind.max, IntKind.bits, IntKind.signed] at h; omega
  have al : bytebarnlaw03_alive.f = some true := rfl
  by_cases hg : m < 0 ∨ n < 0 ∨ m > 4611686018427387904 ∨ n > 4611686018427387903
  · refine ⟨1, ?_⟩
    unfold bytebarnlaw03_CrcOn.f
    simp only [al, Option.bind_some]
    have hj : bytebarnlaw03_CrcOn.j0 1 a b m n true true = some true := by simp [bytebarnlaw03_CrcOn.j0]
    rw [hj]
    split; rfl
    split; rfl
    split; rfl
    split; rfl
    omega
  · obtain ⟨A, rfl⟩ := U_of a (wfu _ ha).1 (wfu _ ha).2
    obtain ⟨B, rfl⟩ := U_of b (wfu _ hb).1 (wfu _ hb).2
    obtain ⟨M, rfl⟩ := Int.eq_ofNat_of_zero_le (show 0 ≤ m by omega)
    obtain ⟨N, rfl⟩ := Int.eq_ofNat_of_zero_le (show 0 ≤ n by omega)
    refine ⟨M + N + 40, ?_⟩
    unfold bytebarnlaw03_CrcOn.f
    simp only [al, Option.bind_some]
    rw [if_neg (by omega), if_neg (by omega), if_neg (by omega), if_neg (by omega)]
    simp only [bytebarnlaw03_CrcOn.j0, bytebarnlaw03_CrcOn.j1, Bool.not_true, Bool.false_eq_true, if_false]
    have hx : (csN (8 * M) (A ^^^ B)) = csN (8 * M) A ^^^ csN (8 * M) B := csN_xor _ _ _
    have hinj : ((U (csN (8 * M) A) == U (csN (8 * M) B)) != (U A == U B)) = false := by
      by_cases h : A = B
      · subst h; simp
      · have h1 : ¬ U A = U B := fun e => h (U_inj e)
        have h2 : ¬ U (csN (8 * M) A) = U (csN (8 * M) B) := fun e => h (csN_inj _ (U_inj e))
        rw [beq_eq_false_iff_ne.2 h2, beq_eq_false_iff_ne.2 h1]; rfl
    have hw : wrap64 ((M : Int) + (N : Int)) = ((M + N : Nat) : Int) := by unfold wrap64; omega
    rw [move_f A M (by omega) _ (by omega), move_f B M (by omega) _ (by omega), U_xor, move_f (A ^^^ B) M (by omega) _ (by omega)]
    simp only [Option.bind_some, if_true, hx, U_xor, hinj, Bool.false_eq_true, if_false]
    rw [hw, move_f _ N (by omega) _ (by omega), move_f A (M + N) (by omega) _ (by omega)]
    simp only [Option.bind_some, if_true, ← csN_add]
    have : 8 * N + 8 * M = 8 * (M + N) := by omega
    rw [this]; simp
end Go.Proofs.Ythnnikhkmpafjaa.Pure
