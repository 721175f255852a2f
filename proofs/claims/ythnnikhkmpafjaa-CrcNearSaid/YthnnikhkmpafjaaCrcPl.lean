/-
  What the printed functions of check sums answer, in plain words of 32 bits. No statement is proved here.
-/
import Derived.Test.YthnnikhkmpafjaaPAllx3
namespace Go.Proofs.Ythnnikhkmpafjaa
open Go.RowKit Go.Proofs.Ythnnikhkmpafjaa.PAll Go.Proofs.YthnnikhkmpafjaaW.PrintWords Go.Proofs.YthnnikhkmpafjaaW.PrintLast
theorem U_zero {x : W32} : U x = 0 ↔ x = 0#32 := ⟨fun h => U_inj (h.trans (by rfl)), fun h => by rw [h]; rfl⟩
theorem U_top (x : W32) : U x / (2147483648 : Int) = 1 ↔ x.getLsbD 31 = true := by
  have : x.getLsbD 31 = decide (2147483648 ≤ x.toNat) := by
    rw [← BitVec.msb_eq_getLsbD_last, BitVec.msb_eq_decide]
  rw [this, decide_eq_true_iff]
  unfold U
  have := x.isLt
  omega
theorem cM_succ (i : Nat) (a b : W32) : cM (i+1) a b = cM i a b ^^^ (if b.getLsbD (31 - i) then csN i a else 0#32) := rfl
theorem U_dbl (x : W32) : U x * (2 : Int) % (4294967296 : Int) = U (x <<< 1) := by
  unfold U; rw [BitVec.toNat_shiftLeft, Nat.shiftLeft_eq]; omega
theorem times_l0 (a b : W32) : ∀ d i k, i + d = 32 → d < k → crc_times.l0 k (U (csN i a)) (U (b <<< i)) (U (cM i a b)) = some (U (cM 32 a b)) := by
  intro d
  induction d with
  | zero =>
    intro i k hi hk
    obtain ⟨k, rfl⟩ : ∃ m, k = m + 1 := ⟨k - 1, by omega⟩
    obtain rfl : i = 32 := by omega
    simp only [crc_times.l0]
    rw [if_pos (U_zero.2 (by apply BitVec.eq_of_getLsbD_eq; intro j hj; simp))]
  | succ d ih =>
    intro i k hi hk
    obtain ⟨k, rfl⟩ : ∃ m, k = m + 1 := ⟨k - 1, by omega⟩
    simp only [crc_times.l0]
    by_cases hz : U (b <<< i) = 0
    · rw [if_pos hz, cM_stop i (by omega) a b (U_zero.1 hz)]
    · rw [if_neg hz]
      have e1 : Go.bits .xor .u32 (U (csN i a) / 2) ((2197175160 * (Go.bits .and .u32 (U (csN i a)) 1)) % 4294967296) = U (csN (i+1) a) := crcStep_U _
      have e2 : U (b <<< i) * (2 : Int) % (4294967296 : Int) = U (b <<< (i+1)) := by rw [U_dbl, BitVec.shiftLeft_add]
      have hb : (b <<< i).getLsbD 31 = b.getLsbD (31 - i) := by
        rw [BitVec.getLsbD_shiftLeft]; simp; omega
      have h := ih (i+1) k (by omega) (by omega)
      rw [e1, e2]
      by_cases ht : U (b <<< i) / (2147483648 : Int) = 1
      · rw [if_pos ht, U_xor]
        have := (U_top _).1 ht
        rw [hb] at this
        rw [cM_succ, this, if_pos rfl] at h
        exact h
      · rw [if_neg ht]
        have h2 : ¬ b.getLsbD (31 - i) = true := fun hh => ht ((U_top _).2 (by rw [hb]; exact hh))
        rw [cM_succ, if_neg h2, BitVec.xor_zero] at h
        exact h
theorem times_f (a b : W32) (k : Nat) (hk : 32 < k) : crc_times.f k (U a) (U b) = some (U (cM 32 a b)) := by
  have := times_l0 a b 32 0 k (by omega) (by omega)
  simp only [csN, BitVec.shiftLeft_zero] at this
  exact this
theorem and1_i64 (x : Int) (h0 : 0 ≤ x) (h1 : x < 9223372036854775808) : Go.bits .and .i64 x 1 = x % 2 :=
  bits_mask .i64 63 (by decide) (fun n h0 h1 => by rw [IntKind.wrap_i64]; omega) 1 (by decide) x h0 h1
theorem move_l0 : ∀ n (L : Nat) (w : W32) (E k : Nat), L ≤ n → (L : Int) < 9223372036854775808 → n + 33 < k → crc_Move.l0 k (U w) (L : Int) (U (csN E cE)) = some (U (csN (E * L) w), 0) := by
  intro n
  induction n with
  | zero =>
    intro L w E k hL hb hk
    obtain ⟨k, rfl⟩ : ∃ m, k = m + 1 := ⟨k - 1, by omega⟩
    obtain rfl : L = 0 := by omega
    simp only [crc_Move.l0]
    rw [if_neg (by omega)]; rfl
  | succ n ih =>
    intro L w E k hL hb hk
    obtain ⟨k, rfl⟩ : ∃ m, k = m + 1 := ⟨k - 1, by omega⟩
    simp only [crc_Move.l0]
    by_cases hz : (L : Int) > 0
    · rw [if_pos hz, and1_i64 _ (by omega) hb, times_f _ _ k (by omega), times_f _ _ k (by omega)]
      have e2 : cM 32 (csN E cE) (csN E cE) = csN (E + E) cE := by rw [cM_pow, csN_add]
      have e3 : (L : Int) / 2 = ((L / 2 : Nat) : Int) := by omega
      by_cases ho : (L : Int) % 2 = 1
      · rw [if_pos ho]
        simp only [Option.bind_some]
        rw [e2, e3, ih (L / 2) _ (E + E) k (by omega) (by omega) (by omega), cM_pow, ← csN_add]
        congr 4
        have : L = L / 2 + L / 2 + 1 := by omega
        calc (E + E) * (L / 2) + E = E * (L / 2 + L / 2 + 1) := by rw [Nat.mul_add, Nat.mul_add, Nat.add_mul]; omega
          _ = E * L := by rw [← this]
      · rw [if_neg ho]
        simp only [Option.bind_some]
        rw [e2, e3, ih (L / 2) _ (E + E) k (by omega) (by omega) (by omega)]
        congr 4
        have : L = L / 2 + L / 2 := by omega
        calc (E + E) * (L / 2) = E * (L / 2 + L / 2) := by rw [Nat.mul_add, Nat.add_mul]
          _ = E * L := by rw [← this]
    · rw [if_neg hz]
      obtain rfl : L = 0 := by omega
      rfl
theorem move_f (w : W32) (L : Nat) (hb : (L : Int) < 9223372036854775808) (k : Nat) (hk : L + 33 < k) : crc_Move.f k (U w) (L : Int) = some (U (csN (8 * L) w), 0) := by
  unfold crc_Move.f
  rw [if_neg (by omega), show (8388608 : Int) = U (csN 8 cE) by decide]
  exact move_l0 L L w 8 k (Nat.le_refl _) hb hk
theorem move_neg (w : Int) (L : Int) (hb : L < 0) (k : Nat) : crc_Move.f k w L = some (0, 2) := by
  unfold crc_Move.f; rw [if_pos hb]

/-! the document's answer -/
theorem bits_l0 (w : W32) (n : Nat) (hn : n ≤ 32) : ∀ d i k, i + d = n → d < k →
    bytebarnref03_Bits.l0 k (U (w >>> i)) (n : Int) ((List.range i).map fun j => w.getLsbD j) (i : Int) = some ((List.range n).map fun j => w.getLsbD j) := by
  intro d
  induction d with
  | zero =>
    intro i k hi hk
    obtain ⟨k, rfl⟩ : ∃ m, k = m + 1 := ⟨k - 1, by omega⟩
    obtain rfl : i = n := by omega
    simp only [bytebarnref03_Bits.l0]
    rw [if_neg (by omega)]
  | succ d ih =>
    intro i k hi hk
    obtain ⟨k, rfl⟩ : ∃ m, k = m + 1 := ⟨k - 1, by omega⟩
    simp only [bytebarnref03_Bits.l0]
    rw [if_pos (by omega), if_pos (by simp; omega)]
    have e0 : Int.tdiv (U (w >>> i)) (2 : Int) % (4294967296 : Int) = U (w >>> (i+1)) := by
      rw [Int.tdiv_eq_ediv_of_nonneg (U_nn _), U_div2, ← BitVec.shiftRight_add]
      have := U_lt (w >>> (i+1)); have := U_nn (w >>> (i+1)); omega
    have e1 : (Int.tmod (U (w >>> i)) (2 : Int) == (1 : Int)) = w.getLsbD i := by
      rw [Int.tmod_eq_emod_of_nonneg (U_nn _)]
      have h0 : w.getLsbD i = (w >>> i).getLsbD 0 := by simp
      rw [h0]
      have : (w >>> i).getLsbD 0 = decide ((w >>> i).toNat % 2 = 1) := by
        rw [BitVec.getLsbD, Nat.testBit_zero]
      rw [this]
      unfold U
      by_cases h : (w >>> i).toNat % 2 = 1
      · rw [decide_eq_true h]; exact beq_iff_eq.2 (by omega)
      · rw [decide_eq_false h]; exact beq_eq_false_iff_ne.2 (by omega)
    have e2 : wrap64 ((i : Int) + 1) = ((i + 1 : Nat) : Int) := by unfold wrap64; omega
    rw [e0, e1, e2]
    have := ih (i+1) k (by omega) (by omega)
    rw [List.range_succ, List.map_append] at this
    exact this
theorem bits_f (w : W32) (n : Nat) (hn : n ≤ 32) (k : Nat) (hk : 33 < k) : bytebarnref03_Bits.f k (U w) (n : Int) = some ((List.range n).map fun j => w.getLsbD j) := by
  have := bits_l0 w n hn n 0 k (by omega) (by omega)
  exact this
theorem word_l0 (l : List Bool) (hl : l.length = 32) : ∀ d k, d ≤ 32 → d < k → bytebarnref03_Word.l0 k l (U (wd (l.drop d))) ((d : Int) - 1) = some (U (wd l)) := by
  intro d
  induction d with
  | zero =>
    intro k _ hk
    obtain ⟨k, rfl⟩ : ∃ m, k = m + 1 := ⟨k - 1, by omega⟩
    simp only [bytebarnref03_Word.l0]
    rw [if_neg (by omega)]; simp
  | succ d ih =>
    intro k hd hk
    obtain ⟨k, rfl⟩ : ∃ m, k = m + 1 := ⟨k - 1, by omega⟩
    simp only [bytebarnref03_Word.l0]
    have e0 : ((d + 1 : Nat) : Int) - 1 = (d : Int) := by omega
    rw [e0, if_pos (by omega), if_pos (by omega), if_pos (by omega)]
    have e1 : rdOf false l (d : Int) = l[d] := by
      unfold rdOf; simp [List.getD_eq_getElem?_getD, show d < l.length by omega]
    have e2 : wrap64 ((d : Int) - 1) = (d : Int) - 1 := by unfold wrap64; omega
    have e3 : wd (l.drop d) = (wd (l.drop (d+1)) <<< 1) ^^^ bb l[d] := by rw [List.drop_eq_getElem_cons (by omega)]; rfl
    have ih' := ih k (by omega) (by omega)
    rw [e1, e2, U_dbl]
    rw [e3] at ih'
    cases hb : l[d]
    · rw [hb] at ih'
      simp only [Bool.false_eq_true, if_false]
      simpa [bb] using ih'
    · rw [hb] at ih'
      simp only [if_true]
      have : (U (wd (List.drop (d + 1) l) <<< 1) + (1 : Int)) % (4294967296 : Int) = U (wd (List.drop (d + 1) l) <<< 1 ^^^ bb true) := by
        have hx : (wd (List.drop (d + 1) l) <<< 1 ^^^ bb true) = (wd (List.drop (d + 1) l) <<< 1) + 1#32 := by
          generalize wd (List.drop (d + 1) l) = x
          have h0 : (x <<< 1) &&& 1#32 = 0#32 := by
            apply BitVec.eq_of_getLsbD_eq
            intro i hi
            rw [BitVec.getLsbD_and, BitVec.getLsbD_shiftLeft]
            have := bb_bit true i
            simp only [bb, if_true] at this
            rw [this]
            by_cases hi0 : i = 0 <;> simp [hi0]
          rw [BitVec.add_eq_or_of_and_eq_zero _ _ h0]
          apply BitVec.eq_of_getLsbD_eq
          intro i hi
          have h1 := congrArg (fun z : W32 => z.getLsbD i) h0
          simp only [BitVec.getLsbD_and, BitVec.getLsbD_zero] at h1
          show ((x <<< 1) ^^^ 1#32).getLsbD i = _
          rw [BitVec.getLsbD_xor, BitVec.getLsbD_or]
          revert h1
          cases (x <<< 1).getLsbD i <;> cases (1#32 : W32).getLsbD i <;> simp
        rw [hx]; unfold U; rw [BitVec.toNat_add]; simp
      rw [this]; exact ih'
theorem word_f (l : List Bool) (hl : l.length = 32) (k : Nat) (hk : 33 < k) : bytebarnref03_Word.f k l = some (U (wd l)) := by
  have := word_l0 l hl 32 k (by omega) (by omega)
  rw [List.drop_of_length_le (by omega)] at this
  exact this
/-! division in place -/
def tog (i : Nat) (x : List Bool) (p : Int) : List Bool := x.set (i + 32 - p.toNat) (!(x.getD (i + 32 - p.toNat) false))
theorem tog_length (i : Nat) (ps : List Int) : ∀ x : List Bool, (ps.foldl (tog i) x).length = x.length := by
  induction ps with
  | nil => intro x; rfl
  | cons p ps ih => intro x; rw [List.foldl_cons, ih]; simp [tog]
def par (ps : List Int) (d : Nat) : Bool := ps.foldl (fun a p => a ^^ decide (d = 32 - p.toNat)) false
theorem par_cons (p : Int) (ps : List Int) (d : Nat) : par (p :: ps) d = (decide (d = 32 - p.toNat) ^^ par ps d) := by
  have key : ∀ (l : List Int) (a : Bool), l.foldl (fun a p => a ^^ decide (d = 32 - p.toNat)) a = (a ^^ l.foldl (fun a p => a ^^ decide (d = 32 - p.toNat)) false) := by
    intro l
    induction l with
    | nil => intro a; simp
    | cons q l ih => intro a; rw [List.foldl_cons, List.foldl_cons, ih, ih (false ^^ _)]; simp
  unfold par
  rw [List.foldl_cons, key]; simp
theorem tog_get (i : Nat) (ps : List Int) (hp : ∀ p ∈ ps, 0 ≤ p ∧ p ≤ 32) : ∀ (x : List Bool) (q : Nat), i + 32 < x.length → (ps.foldl (tog i) x).getD q false = (x.getD q false ^^ (decide (i ≤ q) && par ps (q - i))) := by
  induction ps with
  | nil => intro x q _; simp [par]
  | cons p ps ih =>
    intro x q hx
    have h0 := hp p (by simp)
    rw [List.foldl_cons, ih (fun p h => hp p (by simp [h])) _ q (by simp [tog]; omega), par_cons]
    have e : (tog i x p).getD q false = (x.getD q false ^^ decide (q = i + 32 - p.toNat)) := by
      unfold tog
      by_cases h : q = i + 32 - p.toNat
      · subst h
        rw [List.getD_eq_getElem?_getD, List.getElem?_set_self (by omega)]
        simp
      · rw [List.getD_eq_getElem?_getD, List.getElem?_set_ne (fun e => h e.symm), ← List.getD_eq_getElem?_getD]
        simp [h]
    rw [e]
    by_cases hq : i ≤ q
    · have : decide (q = i + 32 - p.toNat) = decide (q - i = 32 - p.toNat) := by simp only [decide_eq_decide]; omega
      rw [this]; simp only [hq, decide_true, Bool.true_and]
      rw [Bool.xor_assoc]
    · have : ¬ q = i + 32 - p.toNat := by omega
      simp [hq, this]
def pw : List Int := [32, 28, 27, 26, 25, 23, 22, 20, 19, 18, 14, 13, 11, 10, 9, 8, 6, 0]
theorem pw_ok : ∀ p ∈ pw, 0 ≤ p ∧ p ≤ 32 := by decide
theorem pw_par : ∀ j : Fin 32, par pw (j.1 + 1) = cP.getLsbD j.1 := by decide
theorem par_ge : ∀ d, 32 < d → par pw d = false := by
  intro d hd
  have key : ∀ ps : List Int, par ps d = false := by
    intro ps
    induction ps with
    | nil => rfl
    | cons p ps ih => rw [par_cons, ih, decide_eq_false (by omega)]; rfl
  exact key pw
def win (x : List Bool) (i : Nat) : W32 := wd ((x.drop i).take 32)
theorem win_bit (x : List Bool) (i j : Nat) (hj : j < 32) : (win x i).getLsbD j = x.getD (i + j) false := by
  unfold win
  rw [wd_bit _ _ hj, List.getD_eq_getElem?_getD, List.getElem?_take, if_pos hj, List.getElem?_drop, ← List.getD_eq_getElem?_getD]
theorem win_next0 (x : List Bool) (i : Nat) (h : x.getD i false = false) : win x (i + 1) = fd1 (win x i) (x.getD (i + 32) false) := by
  apply BitVec.eq_of_getLsbD_eq
  intro j hj
  unfold fd1 cs
  have h0 : (win x i).getLsbD 0 = false := by rw [win_bit _ _ _ (by omega)]; exact h
  rw [win_bit _ _ _ hj, h0, BitVec.getLsbD_xor]
  simp only [Bool.false_eq_true, if_false, BitVec.xor_zero, BitVec.getLsbD_ushiftRight]
  have hE : ∀ i : Fin 32, cE.getLsbD i.1 = decide (i.1 = 31) := by decide
  by_cases h31 : j = 31
  · subst h31
    rw [BitVec.getLsbD_of_ge _ _ (by omega)]
    have := hE ⟨31, by omega⟩
    rw [show i + 1 + 31 = i + 32 by omega]
    cases x.getD (i + 32) false
    · simp
    · simpa using this
  · rw [win_bit _ _ _ (by omega), show i + (1 + j) = i + 1 + j by omega]
    have := hE ⟨j, hj⟩
    cases x.getD (i + 32) false
    · simp
    · simp only [if_true]; rw [this]; simp [h31]
theorem win_next1 (x : List Bool) (i : Nat) (hl : i + 32 < x.length) (h : x.getD i false = true) : win (pw.foldl (tog i) x) (i + 1) = fd1 (win x i) (x.getD (i + 32) false) := by
  apply BitVec.eq_of_getLsbD_eq
  intro j hj
  unfold fd1 cs
  have h0 : (win x i).getLsbD 0 = true := by rw [win_bit _ _ _ (by omega)]; exact h
  rw [win_bit _ _ _ hj, h0, BitVec.getLsbD_xor, tog_get i pw pw_ok x _ hl]
  simp only [if_true, BitVec.getLsbD_xor, BitVec.getLsbD_ushiftRight]
  have hE : ∀ i : Fin 32, cE.getLsbD i.1 = decide (i.1 = 31) := by decide
  have hP := pw_par ⟨j, hj⟩
  rw [show i + 1 + j - i = j + 1 by omega, hP, decide_eq_true (show i ≤ i + 1 + j by omega), Bool.true_and]
  simp only []
  by_cases h31 : j = 31
  · subst h31
    rw [BitVec.getLsbD_of_ge (win x i) _ (by omega)]
    have := hE ⟨31, by omega⟩
    simp only [] at this
    rw [show i + 1 + 31 = i + 32 by omega]
    cases x.getD (i + 32) false
    · simp
    · simp only [if_true]; rw [this]; simp [Bool.xor_comm]
  · rw [win_bit _ _ _ (by omega), show i + (1 + j) = i + 1 + j by omega]
    have := hE ⟨j, hj⟩
    simp only [] at this
    cases x.getD (i + 32) false
    · simp
    · simp only [if_true]; rw [this]; simp [h31]
theorem tog_drop (x : List Bool) (i : Nat) (hl : i + 32 < x.length) : (pw.foldl (tog i) x).drop (i + 33) = x.drop (i + 33) := by
  apply List.ext_getElem?
  intro q
  rw [List.getElem?_drop, List.getElem?_drop]
  have hlen := tog_length i pw x
  by_cases hq : i + 33 + q < x.length
  · have := tog_get i pw pw_ok x (i + 33 + q) hl
    rw [par_ge _ (by omega)] at this
    rw [List.getElem?_eq_getElem hq, List.getElem?_eq_getElem (by omega)]
    rw [List.getD_eq_getElem?_getD, List.getD_eq_getElem?_getD, List.getElem?_eq_getElem hq, List.getElem?_eq_getElem (by omega)] at this
    simpa using this
  · rw [List.getElem?_eq_none (by omega), List.getElem?_eq_none (by omega)]
theorem left_l1 (i : Nat) (hi : (i : Int) + 64 < 9223372036854775807) (k : Nat) : ∀ (d q : Nat) (x : List Bool), q + d = 18 → i + 32 < x.length → bytebarnref03_Left.l1 (k + d + 1) x pw (i : Int) (q : Int) = bytebarnref03_Left.l0 k ((pw.drop q).foldl (tog i) x) pw ((i + 1 : Nat) : Int) := by
  have w1 : wrap64 ((i : Int) + 1) = ((i + 1 : Nat) : Int) := by unfold wrap64; omega
  have w32 : wrap64 ((i : Int) + 32) = ((i + 32 : Nat) : Int) := by unfold wrap64; omega
  intro d
  induction d with
  | zero =>
    intro q x hq hx
    obtain rfl : q = 18 := by omega
    simp only [bytebarnref03_Left.l1]
    rw [if_neg (by simp [pw]), w1]
    rfl
  | succ d ih =>
    intro q x hq hx
    have hpl : pw.length = 18 := rfl
    have hql : q < pw.length := by omega
    have hm := pw_ok pw[q] (List.getElem_mem hql)
    obtain ⟨K, hK⟩ : ∃ K, K = k + d + 1 := ⟨_, rfl⟩
    rw [show k + (d + 1) + 1 = K + 1 by omega]
    simp only [bytebarnref03_Left.l1]
    have hr : rd pw (q : Int) = pw[q] := by unfold rd; simp [List.getD_eq_getElem?_getD, hql]
    have wq : wrap64 ((q : Int) + 1) = ((q + 1 : Nat) : Int) := by unfold wrap64; omega
    have wi : wrap64 (((i + 32 : Nat) : Int) - pw[q]) = ((i + 32 - pw[q].toNat : Nat) : Int) := by unfold wrap64; omega
    have c1 : ((q : Nat) : Int) < (pw.length : Int) := Int.ofNat_lt.2 hql
    have c2 : (0 : Int) ≤ (q : Int) := Int.natCast_nonneg q
    have c3 : (0 : Int) ≤ ((i + 32 - pw[q].toNat : Nat) : Int) := Int.natCast_nonneg _
    have c4 : ((i + 32 - pw[q].toNat : Nat) : Int) < (x.length : Int) := Int.ofNat_lt.2 (Nat.lt_of_le_of_lt (Nat.sub_le _ _) hx)
    rw [if_pos c1, if_pos c2, hr, w32, wi, if_pos c3, if_pos c4, wq, List.drop_eq_getElem_cons hql, List.foldl_cons]
    have ht : x.set (((i + 32 - pw[q].toNat : Nat) : Int)).toNat (!(rdOf false x ((i + 32 - pw[q].toNat : Nat) : Int))) = tog i x pw[q] := by
      unfold tog rdOf; simp
    rw [ht, hK]
    exact ih (q + 1) (tog i x pw[q]) (by omega) (by simp [tog]; omega)
theorem left_l0 : ∀ (d i : Nat) (x : List Bool) (k : Nat), i + 32 + d = x.length → (x.length : Int) + 64 < 9223372036854775807 → 20 * d + 1 ≤ k →
    ∃ r, bytebarnref03_Left.l0 k x pw (i : Int) = some r ∧ r.length = 32 ∧ wd r = (x.drop (i + 32)).foldl fd1 (win x i) := by
  intro d
  induction d with
  | zero =>
    intro i x k hd hx hk
    obtain ⟨k, rfl⟩ : ∃ m, k = m + 1 := ⟨k - 1, by omega⟩
    have w32 : wrap64 ((i : Int) + 32) = ((i + 32 : Nat) : Int) := by unfold wrap64; omega
    have wl : wrap64 ((x.length : Int) - 32) = (i : Int) := by unfold wrap64; omega
    simp only [bytebarnref03_Left.l0]
    rw [if_neg (by omega), wl, if_pos (by omega), if_pos (by omega)]
    refine ⟨_, rfl, by simp; omega, ?_⟩
    rw [List.drop_of_length_le (show x.length ≤ i + 32 by omega)]
    unfold win
    rw [List.take_of_length_le (by simp; omega)]
    rfl
  | succ d ih =>
    intro i x k hd hx hk
    obtain ⟨k, rfl⟩ : ∃ m, k = m + 19 + 1 := ⟨k - 20, by omega⟩
    have w1 : wrap64 ((i : Int) + 1) = ((i + 1 : Nat) : Int) := by unfold wrap64; omega
    have w32 : wrap64 ((i : Int) + 32) = ((i + 32 : Nat) : Int) := by unfold wrap64; omega
    have hr : rdOf false x (i : Int) = x.getD i false := by unfold rdOf; simp
    have hdrop : x.drop (i + 32) = x.getD (i + 32) false :: x.drop (i + 33) := by
      rw [List.drop_eq_getElem_cons (by omega), List.getD_eq_getElem?_getD, List.getElem?_eq_getElem (by omega)]; rfl
    rw [hdrop, List.foldl_cons]
    simp only [bytebarnref03_Left.l0]
    rw [if_pos (by omega), if_pos (by omega), if_pos (by omega), hr]
    cases hb : x.getD i false
    · simp only [Bool.false_eq_true, if_false]
      rw [w1]
      obtain ⟨r, h1, h2, h3⟩ := ih (i + 1) x (k + 19) (by omega) hx (by omega)
      refine ⟨r, h1, h2, ?_⟩
      rw [h3, win_next0 x i hb]
    · simp only [if_true]
      have := left_l1 i (by omega) k 18 0 x (by omega) (by omega)
      rw [show k + 18 + 1 = k + 19 from rfl, show ((0 : Nat) : Int) = 0 from rfl] at this
      rw [this]
      obtain ⟨r, h1, h2, h3⟩ := ih (i + 1) (pw.foldl (tog i) x) k (by rw [tog_length]; omega) (by rw [tog_length]; exact hx) (by omega)
      refine ⟨r, h1, h2, ?_⟩
      rw [h3, win_next1 x i (by omega) hb, show i + 1 + 32 = i + 33 by omega, tog_drop x i (by omega)]
theorem left_f (x : List Bool) (hl : 32 ≤ x.length) (hx : x.length < 140737488355328) (k : Nat) (hk : 20 * x.length + 1 ≤ k) :
    ∃ r, bytebarnref03_Left.f k x = some r ∧ r.length = 32 ∧ wd r = (x.drop 32).foldl fd1 (wd (x.take 32)) := by
  unfold bytebarnref03_Left.f
  rw [if_pos (by simpa using hx)]
  have h0 : bytebarnref03_Powers.f = some pw := rfl
  rw [h0]
  simp only [Option.bind_some, List.nil_append]
  obtain ⟨r, h1, h2, h3⟩ := left_l0 (x.length - 32) 0 x k (by omega) (by omega) (by omega)
  exact ⟨r, h1, h2, by simpa [win] using h3⟩
end Go.Proofs.Ythnnikhkmpafjaa
