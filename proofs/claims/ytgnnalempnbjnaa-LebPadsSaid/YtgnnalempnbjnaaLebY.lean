/-
  Plain law of numbers in sevens: no program in sight. No statement is proved here.
-/
import Derived.Test.YtgnnalempnbjnaaLebX
import Derived.Test.YtgnnalempnbjnaaPAllx7
namespace Go.Proofs.Ytgnnalempnbjnaa
open Go.RowKit Go.Proofs.Ytgnnalempnbjnaa.PAll Go.Proofs.YtgnnalempnbjnaaW.PrintWords Go.Proofs.YtgnnalempnbjnaaW.PrintLast
/-! ### the references answer the same -/
def lastF (bits : Int) : Int → Bool := if bits = 0 then lastU else if bits = 32 then lastS 8 else lastS 1
theorem ref_last (c bits : Int) (h0 : 0 ≤ c) (h1 : c < 256) : bytebarnref01_last.f c bits = some (lastF bits c) := by
  unfold bytebarnref01_last.f lastF
  split
  · rfl
  split
  · unfold lastS
    split
    · rename_i h; simp [h]
    split
    · rename_i h2 h3
      rw [decide_eq_false h2, Bool.false_or, decide_eq_true (show (128 : Int) - 8 ≤ c by omega), Bool.and_true]
    · rename_i h2 h3
      rw [decide_eq_false h2, Bool.false_or, decide_eq_false (show ¬ (128 : Int) - 8 ≤ c by omega), Bool.and_false]
  · unfold lastS
    split
    · rename_i h; simp [h]
    · rename_i h
      by_cases h2 : c = 127
      · subst h2; rfl
      · rw [beq_eq_false_iff_ne.2 h2]; simp; omega
theorem ref_sevens_l {b : List Int} (hb : Byt b) (bits : Int) (most : Nat) (hmost : most ≤ 10) : ∀ (m k : Nat) (a : Int) (acc : List Int), acc.length + m = most → 0 < m → 2 * m + 1 ≤ k → 0 ≤ a → a ≤ b.length → b.length ≤ maxLen →
    bytebarnref01_sevens.l0 k b a most bits acc = match sc b (lastF bits) m a with
      | .error e => some ([], 0, e)
      | .ok (l, e) => some (acc ++ l, e, 0) := by
  intro m
  induction m with
  | zero => intro _ _ _ _ h; omega
  | succ m ih =>
    intro k a acc hm _ hk h0 h1 hbl
    obtain ⟨k, rfl⟩ : ∃ j, k = (j + 1) + 1 := ⟨k - 2, by omega⟩
    have hc := hb.rd a
    have hw : wrap64 (rd b a) = rd b a := by unfold wrap64; omega
    have ht : Int.tmod (rd b a) 128 = rd b a % 128 := Int.tmod_eq_emod_of_nonneg hc.1
    simp only [bytebarnref01_sevens.l0, sc]
    by_cases hat : a = (b.length : Int)
    · rw [if_pos hat, if_pos hat]
    · have ha : wrap64 (a + 1) = a + 1 := by unfold maxLen at hbl; unfold wrap64; omega
      rw [if_neg hat, if_neg hat, if_pos h0, if_pos (by omega), if_pos (by omega), hw, ht, ha, Option.bind_some]
      rw [ref_last _ _ hc.1 hc.2, Option.bind_some]
      simp only [bytebarnref01_sevens.j2]
      by_cases hm0 : m = 0
      · rw [if_pos (by simp; omega)]
        by_cases hl : lastF bits (rd b a) = true
        · have hc2 : rd b a < 128 := by
            unfold lastF at hl
            split at hl
            · exact lastU_lt _ hc.1 hc.2 hl
            split at hl
            · exact lastS_lt 8 (by omega) _ hc.1 hc.2 hl
            · exact lastS_lt 1 (by omega) _ hc.1 hc.2 hl
          rw [hl, if_neg (by simp), if_pos hc2, if_neg (by simp), if_pos hc2]
          have : rd b a % 128 = rd b a := by omega
          rw [this]
        · have hl2 : lastF bits (rd b a) = false := by simpa using hl
          rw [hl2, if_pos (by simp), if_pos ⟨hm0, rfl⟩]
      · rw [if_neg (by simp; omega), if_neg (by simp), if_neg (show ¬ (m = 0 ∧ _) from fun h => hm0 h.1)]
        by_cases hc2 : rd b a < 128
        · rw [if_pos hc2, if_pos hc2]
          have : rd b a % 128 = rd b a := by omega
          rw [this]
        · rw [if_neg hc2, if_neg hc2, ih k (a + 1) (acc ++ [rd b a % 128]) (by simp; omega) (by omega) (by omega) (by omega) (by omega) hbl]
          have hcm : rd b a % 128 = rd b a - 128 := by omega
          rw [hcm]
          cases sc b (lastF bits) m (a + 1) with
          | error e => rfl
          | ok r => obtain ⟨l, e⟩ := r; simp
theorem ref_sevens {b : List Int} (hb : Byt b) (hbl : b.length ≤ maxLen) (bits a : Int) (most : Nat) (h10 : most ≤ 10) (hm0 : 0 < most) (k : Nat) (hk : 30 ≤ k) :
    bytebarnref01_sevens.f k b a most bits = if a < 0 then some ([], 0, 2) else if (b.length : Int) < a then some ([], 0, 2) else match sc b (lastF bits) most a with
      | .error e => some ([], 0, e)
      | .ok (l, e) => some (l, e, 0) := by
  obtain ⟨k, rfl⟩ : ∃ j, k = j + 1 := ⟨k - 1, by omega⟩
  unfold bytebarnref01_sevens.f
  by_cases h1 : a < 0
  · rw [if_pos h1, if_pos h1]; simp [bytebarnref01_sevens.j0]
  · rw [if_neg h1, if_neg h1]
    by_cases h2 : (b.length : Int) < a
    · rw [if_pos h2, decide_eq_true (show a > (b.length : Int) by omega)]; simp [bytebarnref01_sevens.j0]
    · rw [if_neg h2, decide_eq_false (show ¬ a > (b.length : Int) by omega)]
      simp only [bytebarnref01_sevens.j0, Bool.false_eq_true, if_false]
      rw [ref_sevens_l hb bits most h10 most k a [] (by simp) hm0 (by omega) (by omega) (by omega) hbl]
      simp
theorem rd_nat (l : List Int) (i : Nat) (h : i < l.length) : rd l (i : Int) = l[i] := by
  unfold Go.Proofs.YtgnnalempnbjnaaW.PrintWords.rd
  simp [h]
theorem refU_l (l : List Int) (hl : l.length ≤ 10) (hs : Sev l) (e : Int) : ∀ (j k : Nat) (x : Int), j ≤ l.length → j + 1 ≤ k → x = wrap64 (val (l.drop j)) →
    bytebarnref01_GetU.l0 k l e x ((j : Int) - 1) = some (wrap64 (val l), e, 0) := by
  intro j
  induction j with
  | zero =>
    intro k x _ hk hx
    obtain ⟨k, rfl⟩ : ∃ j, k = j + 1 := ⟨k - 1, by omega⟩
    simp only [bytebarnref01_GetU.l0]
    rw [if_neg (by omega), hx]; simp
  | succ j ih =>
    intro k x hj hk hx
    obtain ⟨k, rfl⟩ : ∃ j, k = j + 1 := ⟨k - 1, by omega⟩
    simp only [bytebarnref01_GetU.l0]
    have e1 : (((j + 1 : Nat) : Int) - 1) = (j : Int) := by omega
    have e2 : wrap64 ((j : Int) - 1) = (j : Int) - 1 := by unfold wrap64; omega
    rw [e1, if_pos (by omega), if_pos (by omega), if_pos (by omega), e2, rd_nat l j (by omega)]
    apply ih k _ (by omega) (by omega)
    rw [List.drop_eq_getElem_cons (by omega), hx]
    simp only [val]
    have := hs l[j] (List.getElem_mem _)
    unfold wrap64; omega
theorem refS_l (l : List Int) (hl : l.length ≤ 10) (hs : Sev l) (e : Int) : ∀ (j k : Nat) (x : Int), j < l.length → j + 1 ≤ k → x = wrap64 (sval (l.drop j)) →
    bytebarnref01_GetS.l0 k l e x ((j : Int) - 1) = some (wrap64 (sval l), e, 0) := by
  intro j
  induction j with
  | zero =>
    intro k x _ hk hx
    obtain ⟨k, rfl⟩ : ∃ j, k = j + 1 := ⟨k - 1, by omega⟩
    simp only [bytebarnref01_GetS.l0]
    rw [if_neg (by omega), hx]; simp
  | succ j ih =>
    intro k x hj hk hx
    obtain ⟨k, rfl⟩ : ∃ j, k = j + 1 := ⟨k - 1, by omega⟩
    simp only [bytebarnref01_GetS.l0]
    have e1 : (((j + 1 : Nat) : Int) - 1) = (j : Int) := by omega
    have e2 : wrap64 ((j : Int) - 1) = (j : Int) - 1 := by unfold wrap64; omega
    rw [e1, if_pos (by omega), if_pos (by omega), if_pos (by omega), e2, rd_nat l j (by omega)]
    apply ih k _ (by omega) (by omega)
    rw [List.drop_eq_getElem_cons (by omega), hx]
    simp only [sval]
    rw [if_neg (by simp; omega)]
    have := hs l[j] (List.getElem_mem _)
    unfold wrap64; omega
theorem refU_eq {b : List Int} (hb : Byt b) (hbl : b.length ≤ maxLen) (a : Int) (k : Nat) (hk : 40 ≤ k) : bytebarnref01_GetU.f k b a = some (gU b a) := by
  unfold bytebarnref01_GetU.f gU
  have h := ref_sevens hb hbl 0 a 5 (by omega) (by omega) k (by omega)
  have e5 : ((5 : Nat) : Int) = 5 := rfl
  rw [e5] at h
  rw [h]
  split
  · rfl
  split
  · rfl
  rename_i h1 h2
  have hla : lastF 0 = lastU := rfl
  rw [hla]
  cases hr : sc b lastU 5 a with
  | error e =>
    simp only [Option.bind_some]
    rw [if_neg (by rintro rfl; exact sc_err0 _ _ _ _ hr)]
  | ok r =>
    obtain ⟨l, e⟩ := r
    obtain ⟨g1, g2, g3, g4, g5, g6⟩ := sc_ok hb (by omega) (by omega) hr
    simp only [Option.bind_some, if_true]
    have e1 : wrap64 ((l.length : Int) - 1) = (l.length : Int) - 1 := by unfold wrap64; omega
    rw [e1]
    exact refU_l l (by omega) g2 e l.length k 0 (by omega) (by omega) (by simp [val, wrap64])
theorem refS_j1 {b : List Int} (hb : Byt b) (hbl : b.length ≤ maxLen) (a bits half : Int) (most : Nat) (h10 : most ≤ 10) (h0 : 0 < most) (hla : lastF bits = lastS half) (k : Nat) (hk : 50 ≤ k) :
    bytebarnref01_GetS.j1 k b a bits most false = some (gS b a half most) := by
  obtain ⟨k, rfl⟩ : ∃ j, k = (j + 1) + 1 := ⟨k - 2, by omega⟩
  simp only [bytebarnref01_GetS.j1, Bool.false_eq_true, if_false]
  unfold gS
  rw [ref_sevens hb hbl bits a most h10 h0 (k + 1) (by omega), hla]
  split
  · rfl
  split
  · rfl
  cases hr : sc b (lastS half) most a with
  | error e =>
    simp only [Option.bind_some]
    rw [if_neg (by rintro rfl; exact sc_err0 _ _ _ _ hr)]
  | ok r =>
    obtain ⟨l, e⟩ := r
    obtain ⟨g1, g2, g3, g4, g5, g6⟩ := sc_ok hb (by omega) (by omega) hr
    simp only [Option.bind_some, if_true]
    have hn : l.length ≠ 0 := fun h => g1 (List.length_eq_zero_iff.1 h)
    obtain ⟨j, hj⟩ : ∃ j, l.length = j + 1 := ⟨l.length - 1, by omega⟩
    have e1 : wrap64 ((l.length : Int) - 1) = (j : Int) := by unfold wrap64; omega
    have e2 : wrap64 ((l.length : Int) - 2) = (j : Int) - 1 := by unfold wrap64; omega
    rw [e1, if_pos (by omega), if_pos (by omega), rd_nat l j (by omega)]
    have hd : l.drop j = [l[j]] := by
      rw [List.drop_eq_getElem_cons (by omega), List.drop_eq_nil_of_le (by omega)]
    have hs := g2 l[j] (List.getElem_mem _)
    simp only [bytebarnref01_GetS.j2, e2]
    split
    · rename_i h64
      refine refS_l l (by omega) g2 e j k _ (by omega) (by omega) ?_
      rw [hd]; simp only [sval, if_true]; rw [if_pos h64]
    · rename_i h64
      refine refS_l l (by omega) g2 e j k _ (by omega) (by omega) ?_
      rw [hd]; simp only [sval, if_true]; rw [if_neg h64]; unfold wrap64; omega
theorem refS_eq {b : List Int} (hb : Byt b) (hbl : b.length ≤ maxLen) (a bits : Int) (k : Nat) (hk : 60 ≤ k) : bytebarnref01_GetS.f k b a bits = some (gSb b a bits) := by
  obtain ⟨k, rfl⟩ : ∃ j, k = (j + 1) + 1 := ⟨k - 2, by omega⟩
  unfold bytebarnref01_GetS.f gSb
  by_cases h64 : bits = 64
  · subst h64
    rw [if_pos rfl, if_neg (by omega), if_pos rfl]
    simp only [bytebarnref01_GetS.j0]
    rw [if_neg (by omega)]
    exact refS_j1 hb hbl a 64 1 10 (by omega) (by omega) rfl (k + 1) (by omega)
  · rw [if_neg h64]
    simp only [bytebarnref01_GetS.j0]
    by_cases h32 : bits = 32
    · subst h32
      rw [if_pos rfl, if_pos rfl]
      exact refS_j1 hb hbl a 32 8 5 (by omega) (by omega) rfl (k + 1) (by omega)
    · rw [if_neg h32, if_neg h32, if_neg h64]
      rw [bne_iff_ne.2 h64]
      simp [bytebarnref01_GetS.j1]
end Go.Proofs.Ytgnnalempnbjnaa
