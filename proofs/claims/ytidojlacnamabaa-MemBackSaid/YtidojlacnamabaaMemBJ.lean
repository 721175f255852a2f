/-
  MemBack's walk and the plain law joined. No statement is proved here.
-/
import Derived.Test.YtidojlacnamabaaMemBw
namespace Go.Proofs.Ytidojlacnamabaa
open Go.RowKit Go.Proofs.Ytidojlacnamabaa.PAll Go.Proofs.YtidojlacnamabaaW.PrintWords Go.Proofs.YtidojlacnamabaaW.PrintLast Go.Proofs.YtidojlacnamabaaW.PrintMore
set_option linter.unusedVariables false
theorem acc_store {op : Int} (h2 : (acc op).2.2.2 = true) (h1 : (acc op).2.2.1 = true) : op = 54 ∨ op = 55 ∨ op = 58 ∨ op = 59 ∨ op = 60 ∨ op = 61 ∨ op = 62 := by
  unfold acc typed_Access.f at h1 h2
  simp only [Option.getD_some] at h1 h2
  repeat' split at h1
  all_goals first
    | (simp only [decide_eq_true_eq] at h1; omega)
    | (simp at h1)
theorem back_all {h : Bool} {p m : Int} {l : List S40} {op lop base off n mask : Int} {many : Nat} {of1 of2 : Int} (K : Nat) (hl : l.length ≤ 2000) (hK : 5000 ≤ K) (hv : (h && okM p m l) = true) (hs : okS op base off n = true) (hin : inM p (base % 4294967296 + off) (acc op).1 = true)
    (h1 : acc op = ((many : Int), of1, true, true)) (h2 : acc lop = ((many : Int), of2, false, true)) (hm : many ≤ 8) (h0 : 1 ≤ many) (hmask : (BitVec.ofInt 64 mask).toNat = 2 ^ (8 * many) - 1) (hsg : ∀ x, sgn lop x = x) :
    mem_Store.f K h p m l op base off n = some (h, p, m, wth l (base % 4294967296 + off) (stB n many), 0, 0) ∧
    memLoadF K h p m (wth l (base % 4294967296 + off) (stB n many)) lop base off = some (Go.bits .and .i64 n mask, 0, 0) ∧
    mem_Check.f K h p m (wth l (base % 4294967296 + off) (stB n many)) = some 0 := by
  have hst := store_f K h p m l op base off n (by omega) (by omega)
  rw [if_pos hv, if_pos hs, if_pos hin, h1] at hst
  have hA : okA op base off true = true := by simp [okS] at hs; exact hs.1
  rw [h1] at hin
  have hv2 := Bool.and_eq_true_iff.1 hv
  have hok := okM_iff.1 hv2.2
  obtain ⟨v0, v1, v2, v3⟩ := hok
  have hi2 : 0 ≤ base % 4294967296 + off ∧ base % 4294967296 + off ≤ p * 65536 - many := by simpa [inM] using hin
  have hlen := wth_length l (base % 4294967296 + off) (stB n many)
  rw [stB_length] at hlen
  have hc : chk p (-1) (wth l (base % 4294967296 + off) (stB n many)) = true := chk_wth v0 (by omega) v3 hi2.1 (by rw [stB_length]; omega)
  have hokw : okM p m (wth l (base % 4294967296 + off) (stB n many)) = true := okM_iff.2 ⟨v0, v1, v2, hc⟩
  have hvw : (h && okM p m (wth l (base % 4294967296 + off) (stB n many))) = true := Bool.and_eq_true_iff.2 ⟨hv2.1, hokw⟩
  refine ⟨by simpa using hst, ?_, ?_⟩
  · have hld := load_f K h p m (wth l (base % 4294967296 + off) (stB n many)) lop base off (by omega) (by omega)
    have hA2 : okA lop base off false = true := by
      simp [okA, h1] at hA
      simp [okA, h2, hA]
    rw [if_pos hvw, if_pos hA2, h2, if_pos hin] at hld
    rw [hld, hsg]
    have hb := byts_wth l (base % 4294967296 + off) (stB n many)
    rw [stB_length] at hb
    simp only [Int.toNat_natCast]
    rw [hb, ldN_mask n mask many hm h0 hmask]
  · rw [check_f K h p m _ (by omega) (by omega), hv2.1, hokw]; rfl
theorem memBack_any (A0 : Option Addr) (c0 : Nat) (l : List S40) (h : Bool) (p m op base off n : Int) (w : World) (hr0 : Kd.C k40 w A0 l.length l) (hc0 : l.length ≤ c0) :
    Calls Try.prog 4 #[.agg #[.bool h, .int .i64 p, .int .i64 m, .slice A0 l.length c0], .int .u8 op, .int .i64 base, .int .i64 off, .int .i64 n] w fun e w' => e = .returned (.bool true) ∧ Below w.heap.size w w' := by
  by_cases hbig : 2000 < l.length
  · exact memBack_1 A0 c0 l h p m op base off n w hr0 hc0 hbig
  · have hsm : l.length ≤ 2000 := by omega
    have hst := store_f 5000 h p m l op base off n (by omega) (by omega)
    by_cases hv : (h && okM p m l) = true
    · rw [if_pos hv] at hst
      by_cases hs : okS op base off n = true
      · rw [if_pos hs] at hst
        by_cases hi : inM p (base % 4294967296 + off) (acc op).1 = true
        · have hA : (acc op).2.2.2 = true ∧ (acc op).2.2.1 = true := by simp [okS, okA] at hs; exact ⟨hs.1.1.1.1.1, hs.1.1.1.1.2⟩
          rcases acc_store hA.1 hA.2 with rfl | rfl | rfl | rfl | rfl | rfl | rfl
          · obtain ⟨q1, q2, q3⟩ := back_all (lop := 53) (mask := 4294967295) (many := 4) 5000 hsm (by omega) hv hs hi rfl rfl (by omega) (by omega) (by decide) (fun x => by simp [sgn])
            exact memBack_54 A0 c0 l h p m _ base off n w hr0 hc0 hsm 5000 rfl _ q1 q2 q3
          · obtain ⟨q1, q2, q3⟩ := back_all (lop := 41) (mask := -1) (many := 8) 5000 hsm (by omega) hv hs hi rfl rfl (by omega) (by omega) (by decide) (fun x => by simp [sgn])
            exact memBack_55 A0 c0 l h p m _ base off n w hr0 hc0 hsm 5000 rfl _ q1 q2 q3
          · obtain ⟨q1, q2, q3⟩ := back_all (lop := 45) (mask := 255) (many := 1) 5000 hsm (by omega) hv hs hi rfl rfl (by omega) (by omega) (by decide) (fun x => by simp [sgn])
            exact memBack_58 A0 c0 l h p m _ base off n w hr0 hc0 hsm 5000 rfl _ q1 q2 q3
          · obtain ⟨q1, q2, q3⟩ := back_all (lop := 47) (mask := 65535) (many := 2) 5000 hsm (by omega) hv hs hi rfl rfl (by omega) (by omega) (by decide) (fun x => by simp [sgn])
            exact memBack_59 A0 c0 l h p m _ base off n w hr0 hc0 hsm 5000 rfl _ q1 q2 q3
          · obtain ⟨q1, q2, q3⟩ := back_all (lop := 49) (mask := 255) (many := 1) 5000 hsm (by omega) hv hs hi rfl rfl (by omega) (by omega) (by decide) (fun x => by simp [sgn])
            exact memBack_60 A0 c0 l h p m _ base off n w hr0 hc0 hsm 5000 rfl _ q1 q2 q3
          · obtain ⟨q1, q2, q3⟩ := back_all (lop := 51) (mask := 65535) (many := 2) 5000 hsm (by omega) hv hs hi rfl rfl (by omega) (by omega) (by decide) (fun x => by simp [sgn])
            exact memBack_61 A0 c0 l h p m _ base off n w hr0 hc0 hsm 5000 rfl _ q1 q2 q3
          · obtain ⟨q1, q2, q3⟩ := back_all (lop := 53) (mask := 4294967295) (many := 4) 5000 hsm (by omega) hv hs hi rfl rfl (by omega) (by omega) (by decide) (fun x => by simp [sgn])
            exact memBack_62 A0 c0 l h p m _ base off n w hr0 hc0 hsm 5000 rfl _ q1 q2 q3
        · rw [if_neg hi] at hst
          exact memBack_3 A0 c0 l h p m op base off n w hr0 hc0 hsm 5000 hst (by rw [same_f 5000 h p m l h p m l (by omega) (by omega) (by omega)]; simp)
      · rw [if_neg hs] at hst
        exact memBack_2 A0 c0 l h p m op base off n w hr0 hc0 hsm 5000 2 (by omega) hst
    · rw [if_neg hv] at hst
      exact memBack_2 A0 c0 l h p m op base off n w hr0 hc0 hsm 5000 8 (by omega) hst
end Go.Proofs.Ytidojlacnamabaa
