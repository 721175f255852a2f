/- No number is read from more bytes than its writing needs to have at most; the shortest writing is never longer than what was read, and is read back. No condition beyond the statement's own. -/
import Derived.Test.YtgnnalempnbjnaaLebZ
import Derived.Test.YtgnnalempnbjnaaPAllx6
namespace Go.Proofs.Ytgnnalempnbjnaa.Pure
open Go.RowKit Go.Proofs.Ytgnnalempnbjnaa Go.Proofs.Ytgnnalempnbjnaa.PAll Go.Proofs.YtgnnalempnbjnaaW.PrintWords Go.Proofs.YtgnnalempnbjnaaW.PrintLast
theorem wfi {x : Int} (h : (Lit.int .i64 x).wf = true) : -9223372036854775808 ≤ x ∧ x < 9223372036854775808 := by
  simp [Lit.wf, IntKind.min, IntKind.max, IntKind.bits, IntKind.signed] at h; omega
theorem wfb {l : List Int} (h : ∀ x ∈ l, (Lit.int .u8 x).wf = true) : Byt l := fun x hx => by
  have := h x hx
  simp [Lit.wf, IntKind.min, IntKind.max, IntKind.bits, IntKind.signed] at this; omega
theorem gSb_enc (D : List Int) (x bits : Int) (hok : okS x bits) (hD : DS x D) (wx : -9223372036854775808 ≤ x ∧ x < 9223372036854775808) : gSb (enc D) 0 bits = (x, (D.length : Int), 0) := by
  obtain ⟨d1, d2, d3, d4, d5⟩ := hD
  unfold gSb
  have e : enc D = [] ++ (enc D ++ []) := by simp
  have e0 : (0 : Int) = (([] : List Int).length : Int) := rfl
  rcases hok with rfl | ⟨rfl, h⟩
  · rw [if_neg (by omega), if_pos rfl, e]
    have := gS_enc [] [] D 1 10 d1 d2 d4 (.inr ⟨rfl, rfl, by omega, by omega⟩)
    simp only [List.length_nil] at this
    rw [show (0 : Int) = ((0 : Nat) : Int) from rfl, this, d3]; simp
  · have := d5 4 (by simp; omega) (by simp; omega)
    rw [if_pos rfl, e]
    have := gS_enc [] [] D 8 5 d1 d2 (by omega) (.inl ⟨rfl, rfl, by omega, by omega⟩)
    simp only [List.length_nil] at this
    rw [show (0 : Int) = ((0 : Nat) : Int) from rfl, this, d3]; simp
theorem gSb_err {b : List Int} {a bits : Int} (h : (gSb b a bits).2.2 ≠ 0) : (gSb b a bits).1 = 0 ∧ (gSb b a bits).2.1 = 0 := by
  unfold gSb gS at h ⊢
  split
  · rename_i h1
    rw [if_pos h1] at h
    split
    · simp
    split
    · simp
    rename_i h2 h3
    rw [if_neg h2, if_neg h3] at h
    cases hr : sc b (lastS 8) 5 a with
    | error e => simp
    | ok r => rw [hr] at h; exact absurd rfl h
  split
  · rename_i h0 h1
    rw [if_neg h0, if_pos h1] at h
    split
    · simp
    split
    · simp
    rename_i h2 h3
    rw [if_neg h2, if_neg h3] at h
    cases hr : sc b (lastS 1) 10 a with
    | error e => simp
    | ok r => rw [hr] at h; exact absurd rfl h
  · simp
theorem short_S (b : List Int) (hb : Byt b) (hl : b.length ≤ 10000) (a : Int) (w : Bool) (bits : Int) (hbits : bits = if w then 64 else 32) (k : Nat) (hk : 1 ≤ k) :
    bytebarnlaw01_LebShort.j2 k b a w bits = some true := by
  obtain ⟨k, rfl⟩ : ∃ i, k = i + 1 := ⟨k - 1, by omega⟩
  simp only [bytebarnlaw01_LebShort.j2]
  rw [show leb_GetS.f b a bits = lebGetSF b a bits from rfl, lebGetSF_eq hb, Option.bind_some]
  by_cases h0 : (gSb b a bits).2.2 = 0
  · rw [if_pos h0]
    obtain ⟨v, e, hv⟩ : ∃ v e, gSb b a bits = (v, e, 0) := ⟨_, _, by rw [← h0]⟩
    rw [hv]
    have hh : ∃ l : List Int, 0 ≤ a ∧ l ≠ [] ∧ Sev l ∧ l.length ≤ (if w then 10 else 5) ∧ v = sval l ∧ e = a + l.length ∧ e ≤ b.length ∧ okS v bits ∧ -9223372036854775808 ≤ v ∧ v < 9223372036854775808 := by
      unfold gSb at hv
      cases w with
      | true =>
        simp at hbits; subst hbits
        rw [if_neg (by omega), if_pos rfl] at hv
        obtain ⟨a0, l, g1, g2, g3, g4, g5, g6, g7, g8⟩ := gS_ok hb (.inr ⟨rfl, rfl⟩) hv
        exact ⟨l, a0, g1, g2, by simpa using g3, g4, g5, g6, .inl rfl, g8⟩
      | false =>
        simp at hbits; subst hbits
        rw [if_pos rfl] at hv
        obtain ⟨a0, l, g1, g2, g3, g4, g5, g6, g7, g8⟩ := gS_ok hb (.inl ⟨rfl, rfl⟩) hv
        exact ⟨l, a0, g1, g2, by simpa using g3, g4, g5, g6, .inr ⟨rfl, g7 rfl⟩, g8⟩
    obtain ⟨l, a0, g1, g2, g3, g4, g5, g6, g7, g8⟩ := hh
    have hn : l.length ≠ 0 := fun h => g1 (List.length_eq_zero_iff.1 h)
    obtain ⟨j, hj⟩ : ∃ j, l.length = j + 1 := ⟨l.length - 1, by omega⟩
    rcases S_spec v bits g8.1 g8.2 with ⟨hok, D, hD, h1, _⟩ | ⟨hno, _⟩
    · have hlen : D.length ≤ l.length := by
        rw [hj]
        obtain ⟨low, d, a1, a2, a3, a4, a5, a6, a7⟩ := digits l j hj g2
        have hp : (0 : Int) < 128 ^ j := Int.pow_pos (by omega)
        refine hD.2.2.2.2 j ?_ ?_
        · rw [g4, a7]
          have : (128 : Int) ^ j * (-64) ≤ 128 ^ j * (if 64 ≤ d then d - 128 else d) := Int.mul_le_mul_of_nonneg_left (by split <;> omega) (by omega)
          omega
        · rw [g4, a7]
          have : (128 : Int) ^ j * (if 64 ≤ d then d - 128 else d) ≤ 128 ^ j * 63 := Int.mul_le_mul_of_nonneg_left (by split <;> omega) (by omega)
          omega
      have hD1 := enc_byt hD.2.1
      have hr := gSb_enc D v bits hok hD g8
      rw [h1, Option.bind_some, show leb_GetS.f (enc D) 0 bits = lebGetSF (enc D) 0 bits from rfl, lebGetSF_eq hD1, Option.bind_some, hr]
      have hw : wrap64 (e - a) = (l.length : Int) := by unfold wrap64; omega
      simp only [if_true, enc_length, hw]
      rw [if_pos (by omega)]
      cases w with
      | true => simp at g3 ⊢; omega
      | false => simp at g3 ⊢; rw [if_pos (by omega)]; simp; omega
    · exact absurd g7 hno
  · rw [if_neg h0]
    have := gSb_err h0
    rw [this.1, this.2]; simp
theorem LebShort : bytebarnlaw01_LebShort.Pure := by
  intro b a w hl _ hb _
  refine ⟨60, ?_⟩
  have bb := wfb hb
  unfold bytebarnlaw01_LebShort.f
  rw [aliveT, Option.bind_some]
  split
  · simp [bytebarnlaw01_LebShort.j0]
  rename_i hlen
  have main : ∀ bits : Int, bits = (if w then 64 else 32) → bytebarnlaw01_LebShort.j1 59 b a w bits = some true := by
    intro bits hbits
    have j2 := short_S b bb (by omega) a w bits hbits 58 (by omega)
    simp only [bytebarnlaw01_LebShort.j1]
    rw [show leb_GetU.f b a = lebGetUF b a from rfl, lebGetUF_eq bb, Option.bind_some]
    by_cases h0 : (gU b a).2.2 = 0
    · rw [if_pos h0]
      obtain ⟨v, e, hv⟩ : ∃ v e, gU b a = (v, e, 0) := ⟨_, _, by rw [← h0]⟩
      rw [hv]
      obtain ⟨a0, l, g1, g2, g3, g4, g5, g6, g7⟩ := gU_ok bb hv
      have hn : l.length ≠ 0 := fun h => g1 (List.length_eq_zero_iff.1 h)
      obtain ⟨j, hj⟩ : ∃ j, l.length = j + 1 := ⟨l.length - 1, by omega⟩
      have hvv := val_nonneg g2
      rcases U_spec v (by omega) (by omega) with ⟨_, _, D, hD, h1, _⟩ | ⟨hno, _⟩
      · have hlD : D.length ≤ l.length := by rw [hj]; exact hD.2.2.2.2 j (by rw [g4, ← hj]; exact hvv.2)
        rw [h1, Option.bind_some]
        have hw : wrap64 (e - a) = (l.length : Int) := by unfold wrap64; omega
        simp only [if_true, enc_length, hw]
        rw [if_neg (by omega), if_neg (by omega)]
        exact j2
      · exact absurd ⟨by omega, by omega⟩ hno
    · rw [if_neg h0]; exact j2
  simp only [bytebarnlaw01_LebShort.j0, Bool.not_true, Bool.false_eq_true, if_false]
  cases w with
  | true => rw [if_pos rfl]; exact main 64 rfl
  | false => rw [if_neg (by simp)]; exact main 32 rfl
end Go.Proofs.Ytgnnalempnbjnaa.Pure
