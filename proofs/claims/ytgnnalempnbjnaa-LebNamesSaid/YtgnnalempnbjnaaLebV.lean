/-
  Plain law of numbers in sevens: no program in sight. No statement is proved here.
-/
import Derived.Test.YtgnnalempnbjnaaLebC
import Derived.Laws.BitsLemmas
import Derived.Laws.BitsAllLaws
namespace Go.Proofs.Ytgnnalempnbjnaa
open Go.RowKit Go.Proofs.YtgnnalempnbjnaaW.PrintWords
/-! ### numbers in sevens -/
def val : List Int → Int
  | [] => 0
  | s :: l => s + 128 * val l
def sval : List Int → Int
  | [] => 0
  | s :: l => if l = [] then (if s ≥ 64 then s - 128 else s) else s + 128 * sval l
def Sev (l : List Int) : Prop := ∀ s ∈ l, 0 ≤ s ∧ s < 128
/-- all go on but the last -/
def Fl : List (Int × Bool) → Prop
  | [] => False
  | p :: l => if l = [] then p.2 = false else p.2 = true ∧ Fl l
theorem and127 (n : Int) (h0 : -9223372036854775808 ≤ n) (h1 : n < 9223372036854775808) : Go.bits .and .i64 n 127 = n % 128 := by
  unfold Go.bits
  show IntKind.i64.wrap (((BitVec.ofInt 64 n &&& BitVec.ofInt 64 127).toNat : Nat) : Int) = _
  have e : (BitVec.ofInt 64 n &&& BitVec.ofInt 64 127).toNat = (n % 128).toNat := by
    rw [BitVec.toNat_and, show (BitVec.ofInt 64 127).toNat = 2 ^ 7 - 1 from rfl, Nat.and_two_pow_sub_one_eq_mod, BitVec.toNat_ofInt]
    omega
  rw [e, IntKind.wrap_i64]
  omega
theorem and1' (n : Int) (h0 : -9223372036854775808 ≤ n) (h1 : n < 9223372036854775808) : Go.bits .and .i64 n 1 = n % 2 := by
  unfold Go.bits
  show IntKind.i64.wrap (((BitVec.ofInt 64 n &&& BitVec.ofInt 64 1).toNat : Nat) : Int) = _
  have e : (BitVec.ofInt 64 n &&& BitVec.ofInt 64 1).toNat = (n % 2).toNat := by
    rw [BitVec.toNat_and, show (BitVec.ofInt 64 1).toNat = 2 ^ 1 - 1 from rfl, Nat.and_two_pow_sub_one_eq_mod, BitVec.toNat_ofInt]
    omega
  rw [e, IntKind.wrap_i64]
  omega
theorem sev7_eq (n : Int) (h0 : -9223372036854775808 ≤ n) (h1 : n < 9223372036854775808) : sev7 n = n % 128 := by
  unfold sev7; rw [and127 n h0 h1]; omega
theorem sevMore_u (n : Int) (h0 : 0 ≤ n) : sevMore false n = decide (128 ≤ n) := by
  unfold sevMore
  simp only [Bool.false_eq_true, if_false]
  by_cases h : 128 ≤ n
  · rw [decide_eq_true h]; exact bne_iff_ne.2 (by omega)
  · rw [decide_eq_false h]; exact bne_eq_false_iff_eq.2 (by omega)
theorem sevMore_s (n : Int) (h0 : -9223372036854775808 ≤ n) (h1 : n < 9223372036854775808) : sevMore true n = !(decide (-64 ≤ n) && decide (n < 64)) := by
  unfold sevMore
  rw [sev7_eq n h0 h1, and1' (n / 128) (by omega) (by omega)]
  simp only [if_true]
  by_cases h : -64 ≤ n ∧ n < 64
  · rw [decide_eq_true h.1, decide_eq_true h.2]
    have a : (n / 128 % 2 != n % 128 / 64) = false := bne_eq_false_iff_eq.2 (by omega)
    rw [a]
    by_cases h2 : 0 ≤ n
    · rw [bne_eq_false_iff_eq.2 (show n / 128 = 0 by omega)]; rfl
    · rw [bne_eq_false_iff_eq.2 (show n / 128 = -1 by omega)]; simp
  · have e : (decide (-64 ≤ n) && decide (n < 64)) = false := by
      by_cases h2 : -64 ≤ n
      · rw [decide_eq_false (show ¬ n < 64 by omega)]; simp
      · rw [decide_eq_false h2]; rfl
    rw [e]
    by_cases h2 : n / 128 = 0 ∨ n / 128 = -1
    · rw [bne_iff_ne.2 (show n / 128 % 2 ≠ n % 128 / 64 by omega)]; simp
    · rw [bne_iff_ne.2 (show n / 128 ≠ 0 by omega), bne_iff_ne.2 (show n / 128 ≠ -1 by omega)]; rfl
/-- what sevens say of an unsigned number -/
theorem svL_u : ∀ (k : Nat) (n : Int) (L : List (Int × Bool)), 0 ≤ n → n < 9223372036854775808 → svL false k n = some L → Fl L ∧ val (L.map (·.1)) = n ∧ Sev (L.map (·.1)) := by
  intro k
  induction k with
  | zero => intro n L _ _ h; simp [svL] at h
  | succ k ih =>
    intro n L h0 h1 h
    simp only [svL] at h
    rw [sevMore_u n h0, sev7_eq n (by omega) h1] at h
    by_cases hm : 128 ≤ n
    · rw [if_pos (decide_eq_true hm)] at h
      obtain ⟨l, h2, h3⟩ := Option.bind_eq_some_iff.mp h
      obtain rfl := Option.some.inj h3
      obtain ⟨f1, f2, f3⟩ := ih (n / 128) l (by omega) (by omega) h2
      have hl : l ≠ [] := by rintro rfl; exact f1
      refine ⟨?_, ?_, ?_⟩
      · simp only [Fl]; rw [if_neg hl]; exact ⟨trivial, f1⟩
      · simp only [List.map_cons, val]; rw [f2]; omega
      · intro s hs
        simp only [List.map_cons, List.mem_cons] at hs
        rcases hs with rfl | hs
        · omega
        · exact f3 s hs
    · rw [if_neg (by simpa using hm)] at h
      obtain rfl := Option.some.inj h
      refine ⟨by simp [Fl], by simp [val]; omega, ?_⟩
      intro s hs
      simp at hs
      omega
theorem svL_s : ∀ (k : Nat) (n : Int) (L : List (Int × Bool)), -9223372036854775808 ≤ n → n < 9223372036854775808 → svL true k n = some L → Fl L ∧ sval (L.map (·.1)) = n ∧ Sev (L.map (·.1)) := by
  intro k
  induction k with
  | zero => intro n L _ _ h; simp [svL] at h
  | succ k ih =>
    intro n L h0 h1 h
    simp only [svL] at h
    rw [sevMore_s n h0 h1, sev7_eq n h0 h1] at h
    by_cases hm : -64 ≤ n ∧ n < 64
    · rw [decide_eq_true hm.1, decide_eq_true hm.2] at h
      rw [if_neg (by simp)] at h
      obtain rfl := Option.some.inj h
      refine ⟨by simp [Fl], ?_, ?_⟩
      · simp only [List.map_cons, List.map_nil, sval, if_true]
        split <;> omega
      · intro s hs
        simp at hs
        omega
    · have e : (!(decide (-64 ≤ n) && decide (n < 64))) = true := by
        by_cases h2 : -64 ≤ n
        · rw [decide_eq_false (show ¬ n < 64 by omega)]; simp
        · rw [decide_eq_false h2]; rfl
      rw [if_pos e] at h
      obtain ⟨l, h2, h3⟩ := Option.bind_eq_some_iff.mp h
      obtain rfl := Option.some.inj h3
      obtain ⟨f1, f2, f3⟩ := ih (n / 128) l (by omega) (by omega) h2
      have hl : l ≠ [] := by rintro rfl; exact f1
      refine ⟨?_, ?_, ?_⟩
      · simp only [Fl]; rw [if_neg hl]; exact ⟨trivial, f1⟩
      · simp only [List.map_cons, sval]; rw [if_neg (by simpa using hl), f2]; omega
      · intro s hs
        simp only [List.map_cons, List.mem_cons] at hs
        rcases hs with rfl | hs
        · omega
        · exact f3 s hs
/-- enough rounds; how many bytes -/
theorem svL_u_some : ∀ (m : Nat) (n : Int) (k : Nat), 0 ≤ n → n < 9223372036854775808 → n < 128 ^ (m + 1) → m < k → ∃ L, svL false k n = some L ∧ L.length ≤ m + 1 := by
  intro m
  induction m with
  | zero =>
    intro n k h0 h1 hb hk
    obtain ⟨k, rfl⟩ : ∃ j, k = j + 1 := ⟨k - 1, by omega⟩
    simp only [svL]
    rw [sevMore_u n h0, if_neg (by simp; omega)]
    exact ⟨_, rfl, by simp⟩
  | succ m ih =>
    intro n k h0 h1 hb hk
    obtain ⟨k, rfl⟩ : ∃ j, k = j + 1 := ⟨k - 1, by omega⟩
    simp only [svL]
    rw [sevMore_u n h0]
    by_cases hm : 128 ≤ n
    · rw [if_pos (decide_eq_true hm)]
      obtain ⟨L, h2, h3⟩ := ih (n / 128) k (by omega) (by omega) (by rw [Int.pow_succ] at hb; omega) (by omega)
      rw [h2]
      exact ⟨_, rfl, by simp; omega⟩
    · rw [if_neg (by simpa using hm)]
      exact ⟨_, rfl, by simp⟩
theorem svL_s_some : ∀ (m : Nat) (n : Int) (k : Nat), -9223372036854775808 ≤ n → n < 9223372036854775808 → -(64 * 128 ^ m) ≤ n → n < 64 * 128 ^ m → m < k → ∃ L, svL true k n = some L ∧ L.length ≤ m + 1 := by
  intro m
  induction m with
  | zero =>
    intro n k h0 h1 hb hb2 hk
    obtain ⟨k, rfl⟩ : ∃ j, k = j + 1 := ⟨k - 1, by omega⟩
    simp only [svL]
    rw [sevMore_s n h0 h1, if_neg (by simp; omega)]
    exact ⟨_, rfl, by simp⟩
  | succ m ih =>
    intro n k h0 h1 hb hb2 hk
    obtain ⟨k, rfl⟩ : ∃ j, k = j + 1 := ⟨k - 1, by omega⟩
    simp only [svL]
    rw [sevMore_s n h0 h1]
    by_cases hm : -64 ≤ n ∧ n < 64
    · rw [if_neg (by simp [hm.1, hm.2])]
      exact ⟨_, rfl, by simp⟩
    · rw [if_pos (by simp; omega)]
      rw [Int.pow_succ] at hb hb2
      obtain ⟨L, h2, h3⟩ := ih (n / 128) k (by omega) (by omega) (by omega) (by omega) (by omega)
      rw [h2]
      exact ⟨_, rfl, by simp; omega⟩
theorem svL_mono (s : Bool) : ∀ (k : Nat) (n : Int) (L : List (Int × Bool)) (j : Nat), svL s k n = some L → svL s (k + j) n = some L := by
  intro k
  induction k with
  | zero => intro n L j h; simp [svL] at h
  | succ k ih =>
    intro n L j h
    rw [show k + 1 + j = (k + j) + 1 by omega]
    simp only [svL] at h ⊢
    split at h
    · rename_i hm
      rw [if_pos hm]
      obtain ⟨l, h1, h2⟩ := Option.bind_eq_some_iff.mp h
      rw [ih _ _ j h1]
      exact h2
    · rename_i hm
      rw [if_neg hm]
      exact h
end Go.Proofs.Ytgnnalempnbjnaa
