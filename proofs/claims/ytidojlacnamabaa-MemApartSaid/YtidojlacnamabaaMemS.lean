/-
  Memories as lists of cells: loads, stores, comparing; a number out of its bytes. No statement is proved here.
-/
import Derived.Test.YtidojlacnamabaaMemP
import Derived.Test.YtidojlacnamabaaMemG
namespace Go.Proofs.Ytidojlacnamabaa
open Go.RowKit Go.Proofs.Ytidojlacnamabaa.PAll Go.Proofs.YtidojlacnamabaaW.PrintWords Go.Proofs.YtidojlacnamabaaW.PrintLast Go.Proofs.YtidojlacnamabaaW.PrintMore
set_option linter.unusedVariables false
def acc (op : Int) : Int × Int × Bool × Bool := (typed_Access.f op).getD (0, 0, false, false)
theorem acc_f (op : Int) : typed_Access.f op = some (acc op) := rfl
def fit (of n : Int) : Bool := if of = 126 then true else if of = 127 then n == wrap64 (wrap32 n) else false
theorem fit_f (of n : Int) : num_Fits.f of n = some (fit of n) := by
  unfold num_Fits.f fit
  split
  · rfl
  · split <;> rfl
/-- what a load's or store's numbers have to be -/
def okA (op base off : Int) (st : Bool) : Bool := (acc op).2.2.2 && ((acc op).2.2.1 == st) && fit 127 base && decide (0 ≤ off) && decide (off < 4294967296)
theorem asked_f (k : Nat) (h : Bool) (p m : Int) (l : List S40) (op base off : Int) (st : Bool) (hl : l.length ≤ 9223372036854775807) (hk : l.length + 1 < k) :
    mem_asked.f k h p m l op base off st = if (h && okM p m l) = true then some ((acc op).1, (acc op).2.1, wrap64 (base % 4294967296 + off), if okA op base off st = true then 0 else 2) else some (0, 0, 0, 8) := by
  unfold mem_asked.f
  rw [there_f k h p m l hl hk, Option.bind_some]
  by_cases hv : (h && okM p m l) = true
  · rw [if_pos hv, if_pos hv, if_pos rfl, acc_f, Option.bind_some]
    unfold okA
    obtain ⟨a1, a2, a3, a4⟩ := acc op
    dsimp only
    cases a4 with
    | false => simp
    | true =>
      rw [if_pos rfl]
      by_cases h3 : (a3 != st) = true
      · rw [if_pos h3]; have : (a3 == st) = false := by simpa using h3
        simp [this]
      · rw [if_neg h3, fit_f, Option.bind_some]
        have : (a3 == st) = true := by simpa using h3
        cases hf : fit 127 base with
        | false => simp
        | true =>
          rw [if_pos rfl]
          by_cases h4 : off < 0
          · rw [if_pos h4]; simp [show ¬ 0 ≤ off by omega]
          · rw [if_neg h4]
            by_cases h5 : off / 4294967296 = 0
            · rw [if_pos h5]; simp [this, show 0 ≤ off by omega, show off < 4294967296 by omega]
            · rw [if_neg h5]; simp [this, show ¬ off < 4294967296 by omega]
  · rw [if_neg hv, if_neg hv, if_neg (by omega)]
def inM (p at_ many : Int) : Bool := decide (0 ≤ at_) && decide (at_ ≤ p * 65536 - many)
theorem within_f (h : Bool) (p m : Int) (l : List S40) (at_ many : Int) (h0 : 0 ≤ p) (h1 : p ≤ 65536) (h2 : 0 ≤ many) (h3 : many ≤ 1099511627776) : mem_within.f h p m l at_ many = some (inM p at_ many) := by
  unfold mem_within.f inM
  rw [show wrap64 (p * 65536) = p * 65536 from w64 (by omega) (by omega), show wrap64 (p * 65536 - many) = p * 65536 - many from w64 (by omega) (by omega)]
  by_cases c : at_ ≥ 0
  · rw [if_pos c, if_pos h2]; simp [show 0 ≤ at_ from c]
  · rw [if_neg c]; simp [show ¬ 0 ≤ at_ by omega]
theorem acc_le (op : Int) : 0 ≤ (acc op).1 ∧ (acc op).1 ≤ 8 := by
  unfold acc typed_Access.f
  simp only [Option.getD_some]
  repeat' split
  all_goals simp
theorem at_w {base off : Int} (h0 : 0 ≤ off) (h1 : off < 4294967296) : wrap64 (base % 4294967296 + off) = base % 4294967296 + off := w64 (by omega) (by omega)
/-- the bytes of a number -/
def stB (n : Int) (many : Nat) : List Int := (List.range many).map fun (i : Nat) => (n / 2 ^ (8 * i)) % 256
theorem stB_length (n : Int) (many : Nat) : (stB n many).length = many := by simp [stB]
theorem store_l0 (n at_ : Int) (h : Bool) (p m : Int) (l : List S40) (many : Nat) (hm : many ≤ 8) (hs : srtB 0 l = true) (h0 : 0 ≤ at_) (h1 : at_ + many < 1099511627776) : ∀ (d k i : Nat) (x : List Int), i ≤ many → many - i = d → d + 20 < k → x.length = many → x.take i = (stB n many).take i →
    mem_Store.l0 k n at_ x (many : Int) (i : Int) h p m l = some (h, p, m, wth l at_ (stB n many), 0, 0) := by
  intro d
  induction d with
  | zero =>
    intro k i x h2 h3 hk hx ht
    obtain ⟨k, rfl⟩ : ∃ q, k = q + 1 := ⟨k - 1, by omega⟩
    obtain rfl : i = many := by omega
    have : x = stB n i := by
      rw [List.take_of_length_le (by omega), List.take_of_length_le (by rw [stB_length]; omega)] at ht; exact ht
    simp only [mem_Store.l0]
    rw [if_neg (by omega), this, with_f k h p m l at_ (stB n i) hs h0 (by rw [stB_length]; exact h1) (by rw [stB_length]; omega), Option.bind_some]
  | succ d ih =>
    intro k i x h2 h3 hk hx ht
    obtain ⟨k, rfl⟩ : ∃ q, k = q + 1 := ⟨k - 1, by omega⟩
    simp only [mem_Store.l0]
    rw [show wrap64 (8 * (i : Int)) = 8 * (i : Int) from w64 (by omega) (by omega), if_pos (by omega), if_pos (by omega), if_pos (by omega), if_pos (by omega), show wrap64 ((i : Int) + 1) = ((i + 1 : Nat) : Int) from by rw [w64 (by omega) (by omega)]; rfl]
    refine ih k (i + 1) _ (by omega) (by omega) (by omega) (by simpa using hx) ?_
    have e : shr .i64 n (8 * (i : Int)) = n / 2 ^ (8 * i) := by
      unfold shr
      have : min (8 * (i : Int)).toNat IntKind.i64.bits = 8 * i := by simp only [IntKind.bits]; omega
      rw [this]
    rw [Int.toNat_natCast, e, List.take_succ_eq_append_getElem (by simp; omega), List.take_succ_eq_append_getElem (by rw [stB_length]; omega), List.take_set_of_le (by omega), ht]
    congr 1
    simp [stB]
def okS (op base off n : Int) : Bool := okA op base off true && fit (acc op).2.1 n
theorem store_f (k : Nat) (h : Bool) (p m : Int) (l : List S40) (op base off n : Int) (hl : l.length ≤ 1099511627776) (hk : l.length + 100 < k) :
    mem_Store.f k h p m l op base off n = if (h && okM p m l) = true then (if okS op base off n = true then (if inM p (base % 4294967296 + off) (acc op).1 = true then some (h, p, m, wth l (base % 4294967296 + off) (stB n (acc op).1.toNat), 0, 0) else some (h, p, m, l, 4, 0)) else some (false, 0, 0, [], 0, 2)) else some (false, 0, 0, [], 0, 8) := by
  unfold mem_Store.f
  rw [asked_f k h p m l op base off true (by omega) (by omega)]
  by_cases hv : (h && okM p m l) = true
  · rw [if_pos hv, if_pos hv, Option.bind_some]
    obtain ⟨k, rfl⟩ : ∃ q, k = q + 2 := ⟨k - 2, by omega⟩
    by_cases ha : okA op base off true = true
    · rw [if_pos ha]
      simp only [if_true]
      rw [fit_f, Option.bind_some]
      simp only [mem_Store.j0]
      have hv2 := (Bool.and_eq_true_iff.1 hv).2
      rw [okM_iff] at hv2
      obtain ⟨v0, v1, v2, v3⟩ := hv2
      have hoff : 0 ≤ off ∧ off < 4294967296 := by simp [okA] at ha; omega
      rw [at_w hoff.1 hoff.2]
      cases hf : fit (acc op).2.1 n with
      | false => simp [okS, hf, mem_Store.j1]
      | true =>
        have hs : okS op base off n = true := by simp [okS, ha, hf]
        rw [if_pos hs, if_neg (by simp)]
        have hac := acc_le op
        simp only [mem_Store.j1, if_true]
        rw [within_f h p m l _ _ v0 (by omega) hac.1 (by omega), Option.bind_some]
        by_cases hi : inM p (base % 4294967296 + off) (acc op).1 = true
        · rw [if_pos hi, if_pos hi, if_pos hac.1, if_pos (by omega), Option.bind_some]
          have hi2 : 0 ≤ base % 4294967296 + off ∧ base % 4294967296 + off ≤ p * 65536 - (acc op).1 := by simpa [inM] using hi
          have := store_l0 n (base % 4294967296 + off) h p m l (acc op).1.toNat (by omega) (by have := chk_srt (by omega) v3; simpa using this) hi2.1 (by omega) (acc op).1.toNat k 0 (List.replicate (acc op).1.toNat 0) (by omega) (by omega) (by omega) (by simp) (by simp)
          simp only [Int.natCast_zero] at this
          rw [List.length_replicate, this]
        · rw [if_neg hi, if_neg hi]
          unfold mem_Twin.f api_Cell_36.f
          rw [if_pos (by omega)]; rfl
    · rw [if_neg ha]
      simp [okS, ha, mem_Store.j0, mem_Store.j1]
  · rw [if_neg hv, if_neg hv, Option.bind_some]
    obtain ⟨k, rfl⟩ : ∃ q, k = q + 2 := ⟨k - 2, by omega⟩
    simp [mem_Store.j0, mem_Store.j1]
theorem same_l0 (h : Bool) (p m : Int) (l : List S40) (h' : Bool) (p' m' : Int) (l' : List S40) (hl : l.length = l'.length) (hb : l.length ≤ 9223372036854775806) : ∀ (d k i : Nat), i ≤ l.length → l.length - i = d → d < k →
    bytebarnref13_Same.l0 k (i : Int) h p m l h' p' m' l' = some (decide (l.drop i = l'.drop i)) := by
  intro d
  induction d with
  | zero =>
    intro k i h2 h3 hk
    obtain ⟨k, rfl⟩ : ∃ q, k = q + 1 := ⟨k - 1, by omega⟩
    obtain rfl : i = l.length := by omega
    simp only [bytebarnref13_Same.l0]
    rw [if_neg (by omega), List.drop_length, hl, List.drop_length]; rfl
  | succ d ih =>
    intro k i h2 h3 hk
    obtain ⟨k, rfl⟩ : ∃ q, k = q + 1 := ⟨k - 1, by omega⟩
    simp only [bytebarnref13_Same.l0]
    rw [if_pos (by omega), if_pos (by omega), if_pos (by omega), rd_drop (show i < l.length by omega), rd_drop (show i < l'.length by omega)]
    generalize rd_T40 l (i : Int) = c
    generalize rd_T40 l' (i : Int) = c'
    by_cases e : c = c'
    · subst e
      rw [if_neg (by simp), show wrap64 ((i : Int) + 1) = ((i + 1 : Nat) : Int) from by rw [w64 (by omega) (by omega)]; rfl, ih k (i + 1) (by omega) (by omega) (by omega)]
      simp
    · have : ¬ (c.f0 = c'.f0 ∧ c.f1 = c'.f1) := fun hh => e (by cases c; cases c'; simp at hh; simp [hh.1, hh.2])
      rw [if_pos (by simp; by_cases e0 : c.f0 = c'.f0; exact .inr (fun e1 => this ⟨e0, e1⟩); exact .inl e0)]
      simp [e]
theorem same_f (k : Nat) (h : Bool) (p m : Int) (l : List S40) (h' : Bool) (p' m' : Int) (l' : List S40) (hb : l.length ≤ 9223372036854775806) (hb' : l'.length ≤ 9223372036854775806) (hk : l.length + 1 < k) :
    bytebarnref13_Same.f k h p m l h' p' m' l' = some (decide (h = h' ∧ p = p' ∧ m = m' ∧ l = l')) := by
  obtain ⟨k, rfl⟩ : ∃ q, k = q + 1 := ⟨k - 1, by omega⟩
  unfold bytebarnref13_Same.f
  by_cases e0 : h = h'
  · rw [if_neg (by simp [e0])]
    by_cases e1 : p = p'
    · rw [if_pos e1]
      by_cases e2 : m = m'
      · rw [if_pos e2]
        simp only [bytebarnref13_Same.j0]
        by_cases e3 : l.length = l'.length
        · rw [if_neg (by simp [e3])]
          have := same_l0 h p m l h' p' m' l' e3 hb l.length k 0 (by omega) (by omega) (by omega)
          simp only [Int.natCast_zero, List.drop_zero] at this
          rw [this]; simp [e0, e1, e2]
        · rw [if_pos (by simp; omega)]
          have : ¬ l = l' := fun e => e3 (by rw [e])
          simp [this]
      · rw [if_neg e2]; simp [bytebarnref13_Same.j0, e2]
    · rw [if_neg e1]; simp [bytebarnref13_Same.j0, e1]
  · rw [if_pos (by simp [e0])]; simp [bytebarnref13_Same.j0, e0]
theorem byts_wth (l : List S40) (at_ : Int) (b : List Int) : byts (wth l at_ b) at_ b.length = b := by
  apply List.ext_getElem
  · simp [byts]
  · intro i h1 h2
    simp only [byts, List.getElem_map, List.getElem_range]
    rw [lk_wth, if_pos (by omega), show (at_ + (i : Int) - at_).toNat = i by omega]
    simp [List.getD, h2]
theorem midC_total (b : List Int) (a : Int) : (midC a b).length ≤ b.length := midC_len b a
theorem wth_length (l : List S40) (at_ : Int) (b : List Int) : (wth l at_ b).length ≤ l.length + b.length := by
  unfold wth
  have h1 := midC_len b at_
  have h2 : (l.filter (fun c => decide (c.f0 < at_))).length + (l.filter (fun c => decide (at_ + b.length ≤ c.f0))).length ≤ l.length := by
    clear h1
    induction l with
    | nil => simp
    | cons c l ih =>
      rw [List.filter_cons, List.filter_cons]
      by_cases c1 : c.f0 < at_
      · have c2 : ¬ at_ + (b.length : Int) ≤ c.f0 := by omega
        simp [c1, c2]; omega
      · by_cases c2 : at_ + (b.length : Int) ≤ c.f0
        · simp [c1, c2]; omega
        · simp [c1, c2]; omega
  simp only [List.length_append]; omega
theorem load_f (k : Nat) (h : Bool) (p m : Int) (l : List S40) (op base off : Int) (hl : l.length ≤ 1099511627776) (hk : l.length + 100 < k) :
    memLoadF k h p m l op base off = if (h && okM p m l) = true then (if okA op base off false = true then (if inM p (base % 4294967296 + off) (acc op).1 = true then some (sgn op (ldN (byts l (base % 4294967296 + off) (acc op).1.toNat) (acc op).1.toNat), 0, 0) else some (0, 4, 0)) else some (0, 0, 2)) else some (0, 0, 8) := by
  unfold memLoadF
  rw [asked_f k h p m l op base off false (by omega) (by omega)]
  by_cases hv : (h && okM p m l) = true
  · rw [if_pos hv, if_pos hv, Option.bind_some]
    by_cases ha : okA op base off false = true
    · rw [if_pos ha, if_pos ha]
      dsimp only
      rw [if_pos rfl]
      have hv2 := (Bool.and_eq_true_iff.1 hv).2
      rw [okM_iff] at hv2
      obtain ⟨v0, v1, v2, v3⟩ := hv2
      have hoff : 0 ≤ off ∧ off < 4294967296 := by simp [okA] at ha; omega
      rw [at_w hoff.1 hoff.2]
      have hac := acc_le op
      rw [within_f h p m l _ _ v0 (by omega) hac.1 (by omega), Option.bind_some]
      by_cases hi : inM p (base % 4294967296 + off) (acc op).1 = true
      · rw [if_pos hi, if_pos hi]
        have hi2 : 0 ≤ base % 4294967296 + off ∧ base % 4294967296 + off ≤ p * 65536 - (acc op).1 := by simpa [inM] using hi
        have e : (((acc op).1.toNat : Nat) : Int) = (acc op).1 := by omega
        have := some_f k h p m l (base % 4294967296 + off) (acc op).1.toNat (by have := chk_srt (by omega) v3; simpa using this) hi2.1 (by omega) (by omega)
        rw [e] at this
        rw [this, Option.bind_some]
        have hbl : (byts l (base % 4294967296 + off) (acc op).1.toNat).length = (acc op).1.toNat := by simp [byts]
        rw [hbl, if_pos (by omega)]
      · rw [if_neg hi, if_neg hi]
    · rw [if_neg ha, if_neg ha]; rfl
  · rw [if_neg hv, if_neg hv, Option.bind_some]; rfl
/-! a number out of its bytes -/
theorem bits_or_bv (a b : Int) : Go.bits .or .i64 a b = IntKind.i64.wrap (((BitVec.ofInt 64 a) ||| (BitVec.ofInt 64 b)).toNat : Int) := rfl
theorem bits_and_bv (a b : Int) : Go.bits .and .i64 a b = IntKind.i64.wrap (((BitVec.ofInt 64 a) &&& (BitVec.ofInt 64 b)).toNat : Int) := rfl
theorem ofInt_wrap (a : Int) : BitVec.ofInt 64 (IntKind.i64.wrap a) = BitVec.ofInt 64 a := by
  apply BitVec.eq_of_toNat_eq
  rw [BitVec.toNat_ofInt, BitVec.toNat_ofInt]
  congr 1
  rw [IntKind.wrap_i64]; omega
theorem ofInt_w64 (a : Int) : BitVec.ofInt 64 (wrap64 a) = BitVec.ofInt 64 a := by
  have : wrap64 a = IntKind.i64.wrap a := by rw [IntKind.wrap_i64]; unfold wrap64; rfl
  rw [this, ofInt_wrap]
theorem ldN_bv (n : Int) (many : Nat) (hm : many ≤ 8) : ∀ j, j ≤ many → BitVec.ofInt 64 (ldN (stB n many) j) = BitVec.ofNat 64 ((n % 18446744073709551616).toNat % 2 ^ (8 * j)) := by
  intro j
  induction j with
  | zero => intro _; simp [ldN, Nat.mod_one]
  | succ j ih =>
    intro hj
    have hi := ih (by omega)
    have hr : rd (stB n many) (j : Int) = (n / 2 ^ (8 * j)) % 256 := by
      unfold rd; simp [stB, List.getD, show j < many by omega]
    simp only [ldN]
    rw [bits_or_bv, ofInt_wrap, hr]
    rw [BitVec.ofInt_natCast, BitVec.ofNat_toNat, BitVec.setWidth_eq, hi, ofInt_w64]
    obtain ⟨N, hN⟩ : ∃ N : Nat, (N : Int) = n % 18446744073709551616 := ⟨(n % 18446744073709551616).toNat, by omega⟩
    rw [← hN, Int.toNat_natCast]
    have hc : ((n / 2 ^ (8 * j)) % 256 : Int) = ((N / 2 ^ (8 * j) % 256 : Nat) : Int) := by
      have : j = 0 ∨ j = 1 ∨ j = 2 ∨ j = 3 ∨ j = 4 ∨ j = 5 ∨ j = 6 ∨ j = 7 := by omega
      rcases this with rfl | rfl | rfl | rfl | rfl | rfl | rfl | rfl <;> simp only [Nat.mul_zero, Nat.reduceMul, Nat.reducePow, Int.reducePow, Int.pow_zero, Nat.pow_zero] <;> omega
    rw [hc]
    generalize hq : N / 2 ^ (8 * j) % 256 = q
    have hw : wrap64 ((q : Nat) : Int) = (q : Int) := w64 (by omega) (by omega)
    rw [hw, show ((q : Int) * 2 ^ (8 * j)) = ((q * 2 ^ (8 * j) : Nat) : Int) by simp, BitVec.ofInt_natCast]
    have hlt : N % 2 ^ (8 * j) < 2 ^ (8 * j) := Nat.mod_lt _ (Nat.pow_pos (by omega))
    have hsum : N % 2 ^ (8 * (j + 1)) = q * 2 ^ (8 * j) + N % 2 ^ (8 * j) := by
      rw [show 8 * (j + 1) = 8 * j + 8 by omega, Nat.pow_add, Nat.mod_mul, show (2 : Nat) ^ 8 = 256 from rfl, hq, Nat.mul_comm (2 ^ (8 * j)) q, Nat.add_comm]
    rw [hsum, ← Nat.shiftLeft_eq, Nat.shiftLeft_add_eq_or_of_lt hlt]
    apply BitVec.eq_of_toNat_eq
    rw [BitVec.toNat_or, BitVec.toNat_ofNat, BitVec.toNat_ofNat, BitVec.toNat_ofNat, Nat.or_mod_two_pow, Nat.or_comm]
theorem ldN_wrapped (b : List Int) (j : Nat) : IntKind.i64.wrap (ldN b (j + 1)) = ldN b (j + 1) := by
  simp only [ldN]
  rw [bits_or_bv]
  simp only [IntKind.wrap_i64]; omega
theorem ldN_mask (n mask : Int) (many : Nat) (hm : many ≤ 8) (h1 : 1 ≤ many) (hmask : (BitVec.ofInt 64 mask).toNat = 2 ^ (8 * many) - 1) : ldN (stB n many) many = Go.bits .and .i64 n mask := by
  obtain ⟨j, rfl⟩ : ∃ j, many = j + 1 := ⟨many - 1, by omega⟩
  have h := ldN_bv n (j + 1) hm (j + 1) (by omega)
  have hw := ldN_wrapped (stB n (j + 1)) j
  rw [bits_and_bv]
  have e : (BitVec.ofInt 64 n &&& BitVec.ofInt 64 mask).toNat = (n % 18446744073709551616).toNat % 2 ^ (8 * (j + 1)) := by
    rw [BitVec.toNat_and, hmask, Nat.and_two_pow_sub_one_eq_mod, BitVec.toNat_ofInt]; rfl
  rw [e]
  rw [← hw]
  have h2 := congrArg BitVec.toNat h
  rw [BitVec.toNat_ofInt, BitVec.toNat_ofNat] at h2
  generalize ldN (stB n (j + 1)) (j + 1) = x at h2
  have hlt : (n % 18446744073709551616).toNat % 2 ^ (8 * (j + 1)) < 18446744073709551616 := by
    have := Nat.mod_le (n % 18446744073709551616).toNat (2 ^ (8 * (j + 1)))
    omega
  simp only [IntKind.wrap_i64]
  rw [show (2 : Nat) ^ 64 = 18446744073709551616 from rfl, Nat.mod_eq_of_lt hlt] at h2
  omega
end Go.Proofs.Ytidojlacnamabaa
