/-
  Plain law of numbers in sevens: no program in sight. No statement is proved here.
-/
import Derived.Test.YtgnnalempnbjnaaLebW
namespace Go.Proofs.Ytgnnalempnbjnaa
open Go.RowKit Go.Proofs.YtgnnalempnbjnaaW.PrintWords
/-! ### what the readers answer -/
def gU (b : List Int) (a : Int) : Int × Int × Int :=
  if a < 0 then (0, 0, 2) else if (b.length : Int) < a then (0, 0, 2) else
    match sc b lastU 5 a with
    | .error e => (0, 0, e)
    | .ok (l, e) => (wrap64 (val l), e, 0)
def gS (b : List Int) (a : Int) (half : Int) (most : Nat) : Int × Int × Int :=
  if a < 0 then (0, 0, 2) else if (b.length : Int) < a then (0, 0, 2) else
    match sc b (lastS half) most a with
    | .error e => (0, 0, e)
    | .ok (l, e) => (wrap64 (sval l), e, 0)
def gSb (b : List Int) (a bits : Int) : Int × Int × Int :=
  if bits = 32 then gS b a 8 5 else if bits = 64 then gS b a 1 10 else (0, 0, 2)
theorem lastU_lt : ∀ c, 0 ≤ c → c < 256 → lastU c = true → c < 128 := by
  intro c _ _ h; unfold lastU at h; have := of_decide_eq_true h; omega
theorem lastS_lt (half : Int) (hh : half ≤ 64) : ∀ c, 0 ≤ c → c < 256 → lastS half c = true → c < 128 := by
  intro c _ _ h; unfold lastS at h; simp at h; omega
theorem sc_err0 (b : List Int) (last : Int → Bool) : ∀ (m : Nat) (a : Int), sc b last m a ≠ .error 0 := by
  intro m
  induction m with
  | zero => intro a h; simp [sc] at h
  | succ m ih =>
    intro a h
    simp only [sc] at h
    split at h
    · simp at h
    split at h
    · simp at h
    split at h
    · simp at h
    cases hr : sc b last m (a + 1) with
    | error e => rw [hr] at h; simp at h; exact ih _ (h ▸ hr)
    | ok r => rw [hr] at h; simp at h
theorem digits : ∀ (l : List Int) (j : Nat), l.length = j + 1 → Sev l → ∃ low d : Int, 0 ≤ low ∧ low < 128 ^ j ∧ d = l.getLastD 0 ∧ 0 ≤ d ∧ d < 128 ∧ val l = low + 128 ^ j * d ∧ sval l = low + 128 ^ j * (if 64 ≤ d then d - 128 else d) := by
  intro l
  induction l with
  | nil => intro j h; simp at h
  | cons s l ih =>
    intro j hj hs
    have h1 := hs s (List.mem_cons_self ..)
    by_cases hl : l = []
    · subst hl
      simp at hj
      subst hj
      refine ⟨0, s, by omega, by simp, by simp, h1.1, h1.2, by simp [val], by simp [sval]⟩
    · obtain ⟨j, rfl⟩ : ∃ i, j = i + 1 := ⟨j - 1, by cases l with | nil => exact absurd rfl hl | cons _ _ => simp at hj; omega⟩
      obtain ⟨low, d, a1, a2, a3, a4, a5, a6, a7⟩ := ih j (by simpa using hj) (fun x hx => hs x (List.mem_cons_of_mem _ hx))
      have hp : (128 : Int) ^ (j + 1) = 128 * 128 ^ j := by rw [Int.pow_succ]; omega
      refine ⟨s + 128 * low, d, by omega, by omega, ?_, a4, a5, ?_, ?_⟩
      · cases l with
        | nil => exact absurd rfl hl
        | cons x l => simpa using a3
      · simp only [val]; rw [a6, hp, Int.mul_add, Int.mul_assoc]; omega
      · simp only [sval]; rw [if_neg hl, a7, hp, Int.mul_add, Int.mul_assoc]; omega
theorem sval_wrap (l : List Int) (j : Nat) (hj : l.length = j + 1) (hs : Sev l) (h9 : j ≤ 8) : wrap64 (IntKind.u64.wrap (val l % 18446744073709551616 * 2 ^ (64 - ((7 * (j + 1) : Nat) : Int)).toNat)) / 2 ^ (64 - ((7 * (j + 1) : Nat) : Int)).toNat = wrap64 (sval l) := by
  obtain ⟨low, d, a1, a2, a3, a4, a5, a6, a7⟩ := digits l j hj hs
  rw [a6, a7, IntKind.wrap_u64]
  clear a6 a7 a3 hj hs
  have : j = 0 ∨ j = 1 ∨ j = 2 ∨ j = 3 ∨ j = 4 ∨ j = 5 ∨ j = 6 ∨ j = 7 ∨ j = 8 := by omega
  unfold wrap64
  split <;> (rcases this with rfl | rfl | rfl | rfl | rfl | rfl | rfl | rfl | rfl <;> simp at a2 ⊢ <;> omega)
theorem sval_wrap10 (l : List Int) (hj : l.length = 10) (hs : Sev l) : wrap64 (val l % 18446744073709551616) = wrap64 (sval l) := by
  obtain ⟨low, d, a1, a2, a3, a4, a5, a6, a7⟩ := digits l 9 hj hs
  rw [a6, a7]
  unfold wrap64
  split <;> (simp at a2 ⊢ <;> omega)
theorem lebGetUF_eq {b : List Int} (hb : Byt b) (a : Int) : lebGetUF b a = some (gU b a) := by
  unfold lebGetUF getF gU
  split
  · simp [wrap64]
  split
  · simp [wrap64]
  have h := getL_sc b hb 32 5 (.inl ⟨rfl, rfl⟩) lastU lastU_lt 5 11 0 a 0 rfl (by omega) (by omega) (by omega) (by simp) (by omega) (by omega)
  have e : ((7 * 0 : Nat) : Int) = 0 := rfl
  rw [e] at h
  rw [h]
  cases sc b lastU 5 a with
  | error e => simp [wrap64]
  | ok r =>
    obtain ⟨l, e⟩ := r
    simp
    unfold wrap64; omega
theorem lebGetSF_eq {b : List Int} (hb : Byt b) (a bits : Int) : lebGetSF b a bits = some (gSb b a bits) := by
  have key : ∀ (half bits : Int) (most : Nat), half ≤ 64 → ((bits = 32 ∧ most = 5) ∨ (bits = 64 ∧ most = 10)) → (getF b a bits (lastS half)).bind finS = some (gS b a half most) := by
    intro half bits most hh hbm
    unfold getF gS
    split
    · rfl
    split
    · rfl
    have h := getL_sc b hb bits most hbm (lastS half) (lastS_lt half hh) most 11 0 a 0 (by omega) (by omega) (by omega) (by omega) (by simp) (by omega) (by omega)
    have e : ((7 * 0 : Nat) : Int) = 0 := rfl
    rw [e] at h
    rw [h]
    cases hr : sc b (lastS half) most a with
    | error e =>
      simp only [Option.bind_some, finS]
      split
      · rfl
      · rename_i he
        simp at he
        subst he
        exfalso
        exact absurd hr (sc_err0 b _ most a)
    | ok r =>
      obtain ⟨l, e⟩ := r
      obtain ⟨h1, h2, h3, h4, h5, h6⟩ := sc_ok hb (by omega) (by omega) hr
      simp only [Option.bind_some, finS]
      have hn : l.length ≠ 0 := fun h => h1 (List.length_eq_zero_iff.1 h)
      obtain ⟨j, hj⟩ : ∃ j, l.length = j + 1 := ⟨l.length - 1, by omega⟩
      simp only [ne_eq, not_true_eq_false, if_false, Nat.zero_add, Int.zero_add, Nat.mul_zero, Int.pow_zero, Int.mul_one]
      rw [hj]
      by_cases hlt : ((7 * (j + 1) : Nat) : Int) < 64
      · rw [if_pos hlt, sval_wrap l j hj h2 (by omega)]
      · rw [if_neg hlt, sval_wrap10 l (by omega) h2]
  unfold lebGetSF gSb
  split
  · exact key 8 32 5 (by omega) (.inl ⟨rfl, rfl⟩)
  split
  · exact key 1 64 10 (by omega) (.inr ⟨rfl, rfl⟩)
  · rfl
end Go.Proofs.Ytgnnalempnbjnaa
