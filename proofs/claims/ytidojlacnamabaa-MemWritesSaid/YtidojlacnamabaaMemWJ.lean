/-
  MemWrites' walk and the plain law joined. No statement is proved here.
-/
import Derived.Test.YtidojlacnamabaaMemWw
namespace Go.Proofs.Ytidojlacnamabaa
open Go.RowKit Go.Proofs.Ytidojlacnamabaa.PAll Go.Proofs.YtidojlacnamabaaW.PrintWords Go.Proofs.YtidojlacnamabaaW.PrintLast Go.Proofs.YtidojlacnamabaaW.PrintMore
set_option linter.unusedVariables false
theorem write_f (k : Nat) (h : Bool) (p m : Int) (l : List S40) (b : Int) (x : List Int) (hl : l.length ≤ 1099511627776) (hk : l.length + 1 < k) (hx : x.length ≤ 16384) (hk2 : x.length + 9 < k) :
    mem_Write.f k h p m l b x = if (h && okM p m l) = true then (if inM p b x.length = true then some (h, p, m, wth l b x, 0) else some (false, 0, 0, [], 2)) else some (false, 0, 0, [], 8) := by
  unfold mem_Write.f
  rw [there_f k h p m l (by omega) hk, Option.bind_some]
  by_cases hv : (h && okM p m l) = true
  · rw [if_pos hv, if_pos hv, if_pos rfl, if_neg (by omega)]
    obtain ⟨v0, v1, v2, v3⟩ := okM_iff.1 (Bool.and_eq_true_iff.1 hv).2
    rw [within_f h p m l b _ v0 (by omega) (by omega) (by omega), Option.bind_some]
    by_cases hi : inM p b x.length = true
    · have hi2 : 0 ≤ b ∧ b ≤ p * 65536 - x.length := by simpa [inM] using hi
      rw [if_pos hi, if_pos hi, with_f k h p m l b x (by have := chk_srt (by omega) v3; simpa using this) hi2.1 (by omega) hk2, Option.bind_some]
    · rw [if_neg hi, if_neg hi]
  · rw [if_neg hv, if_neg hv, if_neg (by omega)]
theorem bytes_f (k : Nat) (h : Bool) (p m : Int) (l : List S40) (b : Int) (n : Nat) (hl : l.length ≤ 1099511627776) (hk : l.length + 1 < k) (hn : n ≤ 16384) :
    mem_Bytes.f k h p m l b (n : Int) = if (h && okM p m l) = true then (if inM p b n = true then some (byts l b n, 0) else some ([], 2)) else some ([], 8) := by
  unfold mem_Bytes.f
  rw [there_f k h p m l (by omega) hk, Option.bind_some]
  by_cases hv : (h && okM p m l) = true
  · rw [if_pos hv, if_pos hv, if_pos rfl, if_neg (by omega), if_neg (by omega)]
    obtain ⟨v0, v1, v2, v3⟩ := okM_iff.1 (Bool.and_eq_true_iff.1 hv).2
    rw [within_f h p m l b _ v0 (by omega) (by omega) (by omega), Option.bind_some]
    by_cases hi : inM p b n = true
    · have hi2 : 0 ≤ b ∧ b ≤ p * 65536 - n := by simpa [inM] using hi
      rw [if_pos hi, if_pos hi, some_f k h p m l b n (by have := chk_srt (by omega) v3; simpa using this) hi2.1 (by omega) (by omega), Option.bind_some]
    · rw [if_neg hi, if_neg hi]
  · rw [if_neg hv, if_neg hv, if_neg (by omega)]
theorem wth_wth {p : Int} (hp0 : 0 ≤ p) (hp : p ≤ 65536) {l : List S40} {b : Int} {x y : List Int} (hc : chk p (-1) l = true) (h0 : 0 ≤ b) (h1 : b + x.length ≤ p * 65536) (he : y.length = x.length) : wth (wth l b x) b y = wth l b y := by
  have c1 := chk_wth hp0 hp hc h0 h1
  have c2 := chk_wth hp0 hp (b := y) c1 h0 (by omega)
  have c3 := chk_wth hp0 hp (b := y) hc h0 (by omega)
  refine lk_ext (chk_srt hp c2) (chk_srt hp c3) (fun c hm => (chk_nz c2 c hm).1) (fun c hm => (chk_nz c3 c hm).1) (fun a => ?_)
  rw [lk_wth, lk_wth, lk_wth, he]
  by_cases c : b ≤ a ∧ a < b + x.length
  · rw [if_pos c, if_pos c]
  · rw [if_neg c, if_neg c, if_neg c]
theorem memWrites_any (A0 : Option Addr) (c0 : Nat) (l : List S40) (h : Bool) (p m b : Int) (Aa : Option Addr) (ca : Nat) (la : List Int) (Ab : Option Addr) (cb : Nat) (lb : List Int) (w : World) (hr0 : Kd.C k40 w A0 l.length l) (hc0 : l.length ≤ c0) (hra : Kd.C (Kd.int .u8) w Aa la.length la) (hca : la.length ≤ ca) (hrb : Kd.C (Kd.int .u8) w Ab lb.length lb) (hcb : lb.length ≤ cb) :
    Calls Try.prog 9 #[.agg #[.bool h, .int .i64 p, .int .i64 m, .slice A0 l.length c0], .int .i64 b, .slice Aa la.length ca, .slice Ab lb.length cb] w fun e w' => e = .returned (.bool true) ∧ Below w.heap.size w w' := by
  by_cases hx : 2000 < l.length
  · exact memWrites_1 A0 c0 l h p m b Aa ca la Ab cb lb w hr0 hc0 hra hca hrb hcb hx
  · by_cases hy : 1000 < la.length
    · exact memWrites_2 A0 c0 l h p m b Aa ca la Ab cb lb w hr0 hc0 hra hca hrb hcb hx hy
    · by_cases hz : lb.length = la.length
      · rw [hz] at hrb hcb ⊢
        have hw := write_f 20000 h p m l b la (by omega) (by omega) (by omega) (by omega)
        have hwb := write_f 20000 h p m l b lb (by omega) (by omega) (by omega) (by omega)
        have hs0 : bytebarnref13_Same.f 20000 false 0 0 [] false 0 0 [] = some true := by rw [same_f 20000 false 0 0 [] false 0 0 [] (by simp) (by simp) (by simp)]; simp
        by_cases hv : (h && okM p m l) = true
        · rw [if_pos hv] at hw hwb
          obtain ⟨hh, hok⟩ := Bool.and_eq_true_iff.1 hv
          obtain ⟨v0, v1, v2, v3⟩ := okM_iff.1 hok
          by_cases hi : inM p b la.length = true
          · have hi2 : 0 ≤ b ∧ b ≤ p * 65536 - la.length := by simpa [inM] using hi
            rw [if_pos hi] at hw
            rw [hz, if_pos hi] at hwb
            have hlw := wth_length l b la
            have hlb := wth_length l b lb
            have hck := chk_wth v0 (by omega) (b := la) v3 hi2.1 (by omega)
            have hok1 : okM p m (wth l b la) = true := okM_iff.2 ⟨v0, v1, v2, hck⟩
            have hw2 := write_f 20000 h p m (wth l b la) b lb (by omega) (by omega) (by omega) (by omega)
            have hby := bytes_f 20000 h p m (wth l b la) b la.length (by omega) (by omega) (by omega)
            rw [if_pos (Bool.and_eq_true_iff.2 ⟨hh, hok1⟩), hz, if_pos hi, wth_wth v0 (by omega) v3 hi2.1 (by omega) hz] at hw2
            rw [if_pos (Bool.and_eq_true_iff.2 ⟨hh, hok1⟩), if_pos hi, byts_wth] at hby
            have hsa : bytebarnref13_Same.f 20000 h p m (wth l b lb) h p m (wth l b lb) = some true := by rw [same_f 20000 h p m _ h p m _ (by omega) (by omega) (by omega)]; simp
            have hc : mem_Check.f 20000 h p m (wth l b la) = some 0 := by rw [check_f 20000 h p m _ (by omega) (by omega), hh, hok1]; rfl
            exact memWrites_5 A0 c0 l h p m b Aa ca la Ab cb lb w hr0 hc0 hra hca hrb hcb hx hy hz 20000 _ _ hw hby hw2 hwb hsa hc
          · rw [if_neg hi] at hw
            exact memWrites_4 A0 c0 l h p m b Aa ca la Ab cb lb w hr0 hc0 hra hca hrb hcb hx hy hz 20000 2 (by omega) hw hs0
        · rw [if_neg hv] at hw
          exact memWrites_4 A0 c0 l h p m b Aa ca la Ab cb lb w hr0 hc0 hra hca hrb hcb hx hy hz 20000 8 (by omega) hw hs0
      · exact memWrites_3 A0 c0 l h p m b Aa ca la Ab cb lb w hr0 hc0 hra hca hrb hcb hx hy hz
end Go.Proofs.Ytidojlacnamabaa
