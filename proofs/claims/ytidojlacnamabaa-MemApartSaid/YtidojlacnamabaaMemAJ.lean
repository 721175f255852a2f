/-
  MemApart's walk and the plain law joined. No statement is proved here.
-/
import Derived.Test.YtidojlacnamabaaMemAw
namespace Go.Proofs.Ytidojlacnamabaa
open Go.RowKit Go.Proofs.Ytidojlacnamabaa.PAll Go.Proofs.YtidojlacnamabaaW.PrintWords Go.Proofs.YtidojlacnamabaaW.PrintLast Go.Proofs.YtidojlacnamabaaW.PrintMore
set_option linter.unusedVariables false
theorem bytesA_f (k : Nat) (h : Bool) (p m : Int) (l : List S40) (b : Int) (n : Nat) (hl : l.length ≤ 1099511627776) (hk : l.length + 1 < k) (hn : n ≤ 16384) :
    mem_Bytes.f k h p m l b (n : Int) = if (h && okM p m l) = true then (if inM p b n = true then some (byts l b n, 0) else some ([], 2)) else some ([], 8) := by
  unfold mem_Bytes.f
  rw [there_f k h p m l (by omega) hk, Option.bind_some]
  by_cases hv : (h && okM p m l) = true
  · rw [if_pos hv, if_pos hv, if_pos rfl, if_neg (by omega), if_neg (by omega)]
    obtain ⟨v0, v1, v2, v3⟩ := okM_iff.1 (Bool.and_eq_true_iff.1 hv).2
    rw [within_f h p m l b _ v0 (by omega) (by omega) (by omega), Option.bind_some]
    by_cases hi : inM p b n = true
    · have hi2 : 0 ≤ b ∧ b ≤ p * 65536 - n := by simpa [inM] using hi
      rw [if_pos hi, if_pos hi, some_f k h p m l b n (by have := chk_srt (by omega) v3; simpa using this) hi2.1 (by omega) (by omega), Option.bind_some]
    · rw [if_neg hi, if_neg hi]
  · rw [if_neg hv, if_neg hv, if_neg (by omega)]
theorem byts_out (l : List S40) (a : Int) (b : List Int) (lo : Int) (N : Nat) (h : lo + N ≤ a ∨ a + b.length ≤ lo) : byts (wth l a b) lo N = byts l lo N := by
  apply List.ext_getElem
  · simp [byts]
  · intro i h1 h2
    have hi : i < N := by simpa [byts] using h1
    simp only [byts, List.getElem_map, List.getElem_range]
    rw [lk_wth, if_neg (by omega)]
theorem memApart_main (A0 : Option Addr) (c0 : Nat) (l : List S40) (h : Bool) (p m op base off n x : Int) (w : World) (hr0 : Kd.C k40 w A0 l.length l) (hc0 : l.length ≤ c0) (hs : ¬ 2000 < l.length) (lw : List S40) (my of : Int) (s1 s2 : Bool) (a : Int) (hx0 : 0 ≤ x) (hx1 : x < 256) (ha : wrap64 (base % 4294967296 + off) = a)
    (hst : mem_Store.f 5000 h p m l op base off n = some (h, p, m, lw, 0, 0)) (hf : typed_Access.f op = some (my, of, s1, s2))
    (hby : ∀ lo : Int, ∀ N : Nat, N ≤ 300 → 0 ≤ lo → lo + N ≤ p * 65536 → (lo + N ≤ a ∨ a + my.toNat ≤ lo) → mem_Bytes.f 5000 h p m l lo (N : Int) = some (byts l lo N, 0) ∧ mem_Bytes.f 5000 h p m lw lo (N : Int) = some (byts l lo N, 0))
    (hac : 0 ≤ my ∧ my ≤ 8) (hi : 0 ≤ a ∧ a ≤ p * 65536 - my) (hp : 0 ≤ p ∧ p ≤ m ∧ m ≤ 65536) :
    Calls Try.prog 5 #[.agg #[.bool h, .int .i64 p, .int .i64 m, .slice A0 l.length c0], .int .u8 op, .int .i64 base, .int .i64 off, .int .i64 n, .int .u8 x] w fun e w' => e = .returned (.bool true) ∧ Below w.heap.size w w' := by
  have HA := Aside0.mk ha
  clear ha
  obtain ⟨lo, N1, hlo, hN1, hb1⟩ : ∃ (lo : Int) (N1 : Nat), (if 0 < a - x then a - x else 0) = lo ∧ a - lo = (N1 : Int) ∧ (0 ≤ lo ∧ lo ≤ a ∧ a - lo ≤ 255) := by
    refine ⟨_, (a - (if 0 < a - x then a - x else 0)).toNat, rfl, ?_, ?_⟩ <;> split <;> omega
  obtain ⟨hi_, N3, hhi, hN3, hb3⟩ : ∃ (hi_ : Int) (N3 : Nat), (if a + my + x < p * 65536 then a + my + x else p * 65536) = hi_ ∧ hi_ - a - my = (N3 : Int) ∧ (a + my ≤ hi_ ∧ hi_ ≤ p * 65536 ∧ hi_ - a - my ≤ 255) := by
    refine ⟨_, ((if a + my + x < p * 65536 then a + my + x else p * 65536) - a - my).toNat, rfl, ?_, ?_⟩ <;> split <;> omega
  obtain ⟨q1, q2⟩ := hby lo N1 (by omega) (by omega) (by omega) (.inl (by omega))
  obtain ⟨q3, q4⟩ := hby (a + my) N3 (by omega) (by omega) (by omega) (.inr (by omega))
  exact memApart_4 A0 c0 l h p m op base off n x w hr0 hc0 hs 5000 lw (byts l lo N1) (byts l (a + my) N3) my of s1 s2 a (a - x) lo (N1 : Int) (a + my) (a + my + x) hi_ (hi_ - a) (N3 : Int) hx0 hx1 HA.out
    (w64 (by omega) (by omega)) hlo ((w64 (by omega) (by omega)).trans hN1) (w64 (by omega) (by omega)) (w64 (by omega) (by omega)) (w64 (by omega) (by omega)) hhi (w64 (by omega) (by omega)) ((w64 (by omega) (by omega)).trans hN3) hst hf q1 q2 q3 q4
theorem memApart_any (A0 : Option Addr) (c0 : Nat) (l : List S40) (h : Bool) (p m op base off n x : Int) (w : World) (hr0 : Kd.C k40 w A0 l.length l) (hc0 : l.length ≤ c0) (hx0 : 0 ≤ x) (hx1 : x < 256) :
    Calls Try.prog 5 #[.agg #[.bool h, .int .i64 p, .int .i64 m, .slice A0 l.length c0], .int .u8 op, .int .i64 base, .int .i64 off, .int .i64 n, .int .u8 x] w fun e w' => e = .returned (.bool true) ∧ Below w.heap.size w w' := by
  by_cases hs : 2000 < l.length
  · exact memApart_1 A0 c0 l h p m op base off n x w hr0 hc0 hs
  · have hst := store_f 5000 h p m l op base off n (by omega) (by omega)
    by_cases hv : (h && okM p m l) = true
    · rw [if_pos hv] at hst
      obtain ⟨hh, hok⟩ := Bool.and_eq_true_iff.1 hv
      obtain ⟨v0, v1, v2, v3⟩ := okM_iff.1 hok
      by_cases ho : okS op base off n = true
      · rw [if_pos ho] at hst
        by_cases hi : inM p (base % 4294967296 + off) (acc op).1 = true
        · rw [if_pos hi] at hst
          have hi2 : 0 ≤ base % 4294967296 + off ∧ base % 4294967296 + off ≤ p * 65536 - (acc op).1 := by simpa [inM] using hi
          have hac := acc_le op
          have hf := acc_f op
          have hsl : (stB n (acc op).1.toNat).length = (acc op).1.toNat := stB_length n _
          have hlen := wth_length l (base % 4294967296 + off) (stB n (acc op).1.toNat)
          have hck := chk_wth v0 (by omega) (b := stB n (acc op).1.toNat) v3 hi2.1 (by rw [hsl]; omega)
          have hok1 : okM p m (wth l (base % 4294967296 + off) (stB n (acc op).1.toNat)) = true := okM_iff.2 ⟨v0, v1, v2, hck⟩
          have hv1 := Bool.and_eq_true_iff.2 ⟨hh, hok1⟩
          have ha : wrap64 (base % 4294967296 + off) = base % 4294967296 + off := w64 (by omega) (by omega)
          have hby : ∀ lo : Int, ∀ N : Nat, N ≤ 300 → 0 ≤ lo → lo + N ≤ p * 65536 → (lo + N ≤ base % 4294967296 + off ∨ base % 4294967296 + off + (stB n (acc op).1.toNat).length ≤ lo) →
              mem_Bytes.f 5000 h p m l lo (N : Int) = some (byts l lo N, 0) ∧ mem_Bytes.f 5000 h p m (wth l (base % 4294967296 + off) (stB n (acc op).1.toNat)) lo (N : Int) = some (byts l lo N, 0) := by
            intro lo N q0 q1 q2 q3
            clear ha
            have hin : inM p lo N = true := by simp [inM]; omega
            have b1 := bytesA_f 5000 h p m l lo N (by omega) (by omega) (by omega)
            have b2 := bytesA_f 5000 h p m (wth l (base % 4294967296 + off) (stB n (acc op).1.toNat)) lo N (by omega) (by omega) (by omega)
            rw [if_pos hv, if_pos hin] at b1
            rw [if_pos hv1, if_pos hin, byts_out _ _ _ _ _ q3] at b2
            exact ⟨b1, b2⟩
          rw [hsl] at hby
          revert hst hby hlen hck hok1 hv1 hf ha
          generalize wth l (base % 4294967296 + off) (stB n (acc op).1.toNat) = lw
          generalize hmy : acc op = ac at hac hi2 ⊢
          obtain ⟨my, of, s1, s2⟩ := ac
          dsimp only at hac hi2 ⊢
          intro hst hf hlen hck hok1 hv1 ha hby
          exact memApart_main A0 c0 l h p m op base off n x w hr0 hc0 hs lw my of s1 s2 _ hx0 hx1 ha hst hf hby hac hi2 ⟨v0, v1, v2⟩
        · rw [if_neg hi] at hst
          exact memApart_3 A0 c0 l h p m op base off n x w hr0 hc0 hs 5000 hst
      · rw [if_neg ho] at hst
        exact memApart_2 A0 c0 l h p m op base off n x w hr0 hc0 hs 5000 2 (by omega) hst
    · rw [if_neg hv] at hst
      exact memApart_2 A0 c0 l h p m op base off n x w hr0 hc0 hs 5000 8 (by omega) hst
end Go.Proofs.Ytidojlacnamabaa
