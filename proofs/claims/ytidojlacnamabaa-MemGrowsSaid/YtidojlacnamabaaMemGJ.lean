/-
  MemGrows' walk and the plain law joined. No statement is proved here.
-/
import Derived.Test.YtidojlacnamabaaMemGw
namespace Go.Proofs.Ytidojlacnamabaa
open Go.RowKit Go.Proofs.Ytidojlacnamabaa.PAll Go.Proofs.YtidojlacnamabaaW.PrintWords Go.Proofs.YtidojlacnamabaaW.PrintLast Go.Proofs.YtidojlacnamabaaW.PrintMore
set_option linter.unusedVariables false
theorem fit127 (n : Int) : fit 127 n = true ↔ -2147483648 ≤ n ∧ n < 2147483648 := by
  unfold fit
  rw [if_neg (by omega), if_pos rfl, beq_iff_eq]
  unfold wrap64 wrap32
  omega
theorem grow_f (k : Nat) (h : Bool) (p m : Int) (l : List S40) (n : Int) (hl : l.length ≤ 1099511627776) (hk : l.length + 1 < k) :
    memGrowF k h p m l n = if (h && okM p m l) = true then (if fit 127 n = true then (if n % 4294967296 ≤ m - p then some (h, p + n % 4294967296, m, l, p, 0) else some (h, p, m, l, -1, 0)) else some (false, 0, 0, [], 0, 2)) else some (false, 0, 0, [], 0, 8) := by
  unfold memGrowF
  rw [there_f k h p m l (by omega) hk, Option.bind_some]
  by_cases hv : (h && okM p m l) = true
  · rw [if_pos hv, if_pos hv, if_pos rfl, fit_f, Option.bind_some]
    have hv2 := okM_iff.1 (Bool.and_eq_true_iff.1 hv).2
    by_cases hf : fit 127 n = true
    · rw [if_pos hf, if_pos hf, if_pos (by omega), show wrap64 (m - p) = m - p from w64 (by omega) (by omega)]
      by_cases hc : n % 4294967296 ≤ m - p
      · rw [if_pos hc, if_pos hc, show wrap64 (p + n % 4294967296) = p + n % 4294967296 from w64 (by omega) (by omega)]
      · rw [if_neg hc, if_neg hc]
    · rw [if_neg hf, if_neg hf]
  · rw [if_neg hv, if_neg hv, if_neg (by omega)]
theorem chk_mono {p q : Int} (hpq : p ≤ q) : ∀ {l : List S40} {last : Int}, chk p last l = true → chk q last l = true := by
  intro l
  induction l with
  | nil => intro _ _; rfl
  | cons c l ih =>
    intro last h
    simp only [chk, Bool.and_eq_true, decide_eq_true_eq] at h ⊢
    exact ⟨h.1, h.2.1, by omega, ih h.2.2.2⟩
theorem memGrows_any (A0 : Option Addr) (c0 : Nat) (l : List S40) (h : Bool) (p m n x : Int) (w : World) (hr0 : Kd.C k40 w A0 l.length l) (hc0 : l.length ≤ c0) (hx0 : 0 ≤ x) (hx1 : x < 65536) :
    Calls Try.prog 8 #[.agg #[.bool h, .int .i64 p, .int .i64 m, .slice A0 l.length c0], .int .i64 n, .int .u16 x] w fun e w' => e = .returned (.bool true) ∧ Below w.heap.size w w' := by
  by_cases hbig : 2000 < l.length
  · exact memGrows_1 A0 c0 l h p m n x w hr0 hc0 hbig
  · have hsm : l.length ≤ 2000 := by omega
    have hgr := grow_f 5000 h p m l n (by omega) (by omega)
    by_cases hv : (h && okM p m l) = true
    · rw [if_pos hv] at hgr
      have hv2 := Bool.and_eq_true_iff.1 hv
      obtain ⟨v0, v1, v2, v3⟩ := okM_iff.1 hv2.2
      have hsame : ∀ z, bytebarnref13_Same.f 5000 h z m l h z m l = some true := fun z => by rw [same_f 5000 h z m l h z m l (by omega) (by omega) (by omega)]; simp
      by_cases hf : fit 127 n = true
      · rw [if_pos hf] at hgr
        have hn := (fit127 n).1 hf
        by_cases hc : n % 4294967296 ≤ m - p
        · rw [if_pos hc] at hgr
          have e : n % 4294967296 = n := by omega
          rw [e] at hgr hc
          have hokq : okM (p + n) m l = true := okM_iff.2 ⟨by omega, by omega, v2, chk_mono (by omega) v3⟩
          have hvq : (h && okM (p + n) m l) = true := Bool.and_eq_true_iff.2 ⟨hv2.1, hokq⟩
          have hck : mem_Check.f 5000 h (p + n) m l = some 0 := by rw [check_f 5000 h (p + n) m l (by omega) (by omega), hv2.1, hokq]; rfl
          have hg2 := grow_f 5000 h (p + n) m l x (by omega) (by omega)
          have hg3 := grow_f 5000 h p m l (n + x) (by omega) (by omega)
          rw [if_pos hvq, if_pos ((fit127 x).2 (by omega)), show x % 4294967296 = x by omega] at hg2
          rw [if_pos hv, if_pos ((fit127 (n + x)).2 (by omega)), show (n + x) % 4294967296 = n + x by omega] at hg3
          have w1 : wrap64 (p + n) = p + n := w64 (by omega) (by omega)
          have w2 : wrap64 (n + x) = n + x := w64 (by omega) (by omega)
          by_cases hd : x ≤ m - (p + n)
          · rw [if_pos hd] at hg2
            rw [if_pos (by omega), show p + (n + x) = p + n + x by omega] at hg3
            exact memGrows_6 A0 c0 l h p m n x w hr0 hc0 hsm 5000 (p + n) (n + x) (p + n + x) hx0 hx1 v0 (by omega) w1 w2 hgr hck hg2 hg3 (hsame _)
          · rw [if_neg hd] at hg2
            rw [if_neg (by omega)] at hg3
            exact memGrows_5 A0 c0 l h p m n x w hr0 hc0 hsm 5000 (p + n) (n + x) 0 hx0 hx1 v0 (by omega) w1 w2 hgr hck hg2 hg3
        · rw [if_neg hc] at hgr
          by_cases hneg : n < 0
          · exact memGrows_3 A0 c0 l h p m n x w hr0 hc0 hsm 5000 hneg hgr (hsame _)
          · exact memGrows_4 A0 c0 l h p m n x w hr0 hc0 hsm 5000 (by omega) (w64 (by omega) (by omega)) (by omega) hgr (hsame _)
      · rw [if_neg hf] at hgr
        exact memGrows_2 A0 c0 l h p m n x w hr0 hc0 hsm 5000 2 (by omega) hgr
    · rw [if_neg hv] at hgr
      exact memGrows_2 A0 c0 l h p m n x w hr0 hc0 hsm 5000 8 (by omega) hgr
end Go.Proofs.Ytidojlacnamabaa
