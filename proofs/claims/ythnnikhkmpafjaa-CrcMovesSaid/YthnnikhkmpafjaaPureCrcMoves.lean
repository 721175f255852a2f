/- crc.Move and crc.Join answer, for any two words and any length up to 2,000, what the document's division of bits answers, or its error. No condition beyond the statement's own guard. -/
import Derived.Test.YthnnikhkmpafjaaCrcPl
namespace Go.Proofs.Ythnnikhkmpafjaa.Pure
open Go.RowKit Go.Proofs.Ythnnikhkmpafjaa Go.Proofs.Ythnnikhkmpafjaa.PAll Go.Proofs.YthnnikhkmpafjaaW.PrintWords Go.Proofs.YthnnikhkmpafjaaW.PrintLast
theorem wd_low (w : W32) : wd ((List.range 32).map fun j => w.getLsbD j) = w := by
  apply BitVec.eq_of_getLsbD_eq
  intro j hj
  rw [wd_bit _ _ hj, List.getD_eq_getElem?_getD]
  simp [hj]
theorem rmove_core (B : List Bool) (hB : B.length = 32) (L : Nat) (hb : L ≤ 2000) (k : Nat) (hk : 20 * (8 * L + 32) + 40 ≤ k) :
    (if 0 ≤ (8 * L : Nat) then (if B.length + (8 * L : Nat) < 140737488355328 then ((bytebarnref03_Left.f k (B ++ List.replicate (8 * L) false)).bind fun t131 => ((bytebarnref03_Word.f k t131).bind fun t134 => (some (t134, (0 : Int))))) else none) else none) = some (U (csN (8 * L) (wd B)), 0) := by
  have hlen : (B ++ List.replicate (8 * L) false).length = 32 + 8 * L := by rw [List.length_append, hB, List.length_replicate]
  have g1 : B.length + 8 * L < 140737488355328 := by rw [hB]; omega
  have g2 : 32 ≤ (B ++ List.replicate (8 * L) false).length := by rw [hlen]; omega
  have g3 : (B ++ List.replicate (8 * L) false).length < 140737488355328 := by rw [hlen]; omega
  have g4 : 20 * (B ++ List.replicate (8 * L) false).length + 1 ≤ k := by rw [hlen]; omega
  have g5 : 33 < k := by omega
  rw [if_pos (Nat.zero_le _), if_pos g1]
  obtain ⟨r, h1, h2, h3⟩ := left_f _ g2 g3 k g4
  rw [h1]
  simp only [Option.bind_some]
  rw [word_f r h2 k g5, h3, List.drop_left' hB, List.take_left' hB, fd_zeros]
  rfl
theorem rmove_f (w : W32) (L : Nat) (hb : L ≤ 2000) (k : Nat) (hk : 20 * (8 * L + 32) + 40 ≤ k) : bytebarnref03_Move.f k (U w) (L : Int) = some (U (csN (8 * L) w), 0) := by
  unfold bytebarnref03_Move.f
  have w8 : wrap64 (8 * (L : Int)) = ((8 * L : Nat) : Int) := by unfold wrap64; omega
  have g5 : 33 < k := by omega
  have hbits := bits_f w 32 (Nat.le_refl _) k g5
  have hn : ¬ ((L : Int) < 0) := by omega
  obtain ⟨B, hB⟩ : ∃ B, B = (List.range 32).map fun j => w.getLsbD j := ⟨_, rfl⟩
  have hw : wd B = w := by rw [hB]; exact wd_low w
  have hl : B.length = 32 := by rw [hB, List.length_map, List.length_range]
  rw [← hB] at hbits
  clear hB
  rw [if_neg hn, show (32 : Int) = ((32 : Nat) : Int) from rfl, hbits]
  rw [Option.bind_some]
  rw [w8]
  simp only [Int.toNat_natCast]
  have := rmove_core B hl L hb k hk
  rw [hw] at this
  rw [if_pos (Int.natCast_nonneg _)]
  rw [if_pos (Nat.zero_le _)] at this
  exact this
theorem rmove_neg (w : Int) (L : Int) (hb : L < 0) (k : Nat) : bytebarnref03_Move.f k w L = some (0, 2) := by
  unfold bytebarnref03_Move.f; rw [if_pos hb]
theorem wfu32 (x : Int) (h : (Lit.int .u32 x).wf = true) : 0 ≤ x ∧ x < 4294967296 := by
  simp [Lit.wf, IntKind.min, IntKind.max, IntKind.bits, IntKind.signed] at h; omega
theorem CrcMoves : bytebarnlaw03_CrcMoves.Pure := by
  intro a b n ha hb hn
  by_cases h2 : n > 2000
  · exact ⟨0, by unfold bytebarnlaw03_CrcMoves.f; rw [if_pos h2]⟩
  · by_cases h0 : n < 0
    · refine ⟨0, ?_⟩
      unfold bytebarnlaw03_CrcMoves.f crc_Join.f bytebarnref03_Join.f
      rw [if_neg h2, move_neg _ _ h0, rmove_neg _ _ h0]
      simp
    · obtain ⟨A, rfl⟩ := U_of a (wfu32 _ ha).1 (wfu32 _ ha).2
      obtain ⟨B, rfl⟩ := U_of b (wfu32 _ hb).1 (wfu32 _ hb).2
      obtain ⟨N, rfl⟩ := Int.eq_ofNat_of_zero_le (show 0 ≤ n by omega)
      refine ⟨20 * (8 * N + 32) + 40, ?_⟩
      unfold bytebarnlaw03_CrcMoves.f crc_Join.f bytebarnref03_Join.f
      rw [if_neg h2, move_f A N (by omega) _ (by omega), rmove_f A N (by omega) _ (by omega)]
      simp
end Go.Proofs.Ythnnikhkmpafjaa.Pure
