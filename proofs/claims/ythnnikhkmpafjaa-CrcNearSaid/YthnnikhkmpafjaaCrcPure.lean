/-
  Check sums, in plain words of 32 bits: no program. No statement is proved here.
-/
import Derived.Laws.BitsAllLaws
import Derived.Laws.BitsLemmas
namespace Go.Proofs.Ythnnikhkmpafjaa
abbrev W32 := BitVec 32
def cP : W32 := 0x82f63b78#32
/-- one bit on -/
def cs (x : W32) : W32 := (x >>> 1) ^^^ (if x.getLsbD 0 then cP else 0#32)
def csN : Nat → W32 → W32
  | 0, x => x
  | n+1, x => cs (csN n x)
theorem csN_succ' (n : Nat) (x : W32) : csN (n+1) x = csN n (cs x) := by
  induction n with
  | zero => rfl
  | succ n ih => show cs (csN (n+1) x) = cs (csN n (cs x)); rw [ih]
theorem csN_add (m n : Nat) (x : W32) : csN (m + n) x = csN m (csN n x) := by
  induction m with
  | zero => simp [csN]
  | succ m ih => rw [show m + 1 + n = (m + n) + 1 by omega]; show cs _ = cs _; rw [ih]
theorem cs_xor (x y : W32) : cs (x ^^^ y) = cs x ^^^ cs y := by
  unfold cs
  rw [BitVec.ushiftRight_xor_distrib, BitVec.getLsbD_xor]
  cases x.getLsbD 0 <;> cases y.getLsbD 0 <;> simp
  · rw [BitVec.xor_assoc]
  · rw [BitVec.xor_assoc, BitVec.xor_assoc, BitVec.xor_comm cP]
  · rw [BitVec.xor_assoc, BitVec.xor_comm (y >>> 1) cP, ← BitVec.xor_assoc cP, BitVec.xor_self, BitVec.zero_xor]
theorem csN_xor (n : Nat) (x y : W32) : csN n (x ^^^ y) = csN n x ^^^ csN n y := by
  induction n with
  | zero => rfl
  | succ n ih => show cs _ = _; rw [ih, cs_xor]; rfl
theorem cs_zero : cs 0#32 = 0#32 := by decide
theorem csN_zero (n : Nat) : csN n 0#32 = 0#32 := by
  induction n with
  | zero => rfl
  | succ n ih => show cs _ = _; rw [ih, cs_zero]
theorem cs_inj0 {x : W32} (h : cs x = 0#32) : x = 0#32 := by
  unfold cs at h
  have h31 : ((x >>> 1) ^^^ (if x.getLsbD 0 then cP else 0#32)).getLsbD 31 = false := by rw [h]; simp
  rw [BitVec.getLsbD_xor] at h31
  cases hx : x.getLsbD 0
  · simp only [hx, Bool.false_eq_true, if_false, BitVec.xor_zero] at h
    apply BitVec.eq_of_getLsbD_eq
    intro i hi
    cases i with
    | zero => simpa using hx
    | succ i =>
      have := congrArg (fun z : W32 => z.getLsbD i) h
      simp only [BitVec.getLsbD_ushiftRight] at this
      rw [Nat.add_comm 1 i] at this
      simpa using this
  · simp [hx, cP] at h31
theorem cs_inj {x y : W32} (h : cs x = cs y) : x = y := by
  have : cs (x ^^^ y) = 0#32 := by rw [cs_xor, h, BitVec.xor_self]
  have := cs_inj0 this
  exact BitVec.xor_eq_zero_iff.1 this
theorem csN_inj (n : Nat) {x y : W32} (h : csN n x = csN n y) : x = y := by
  induction n with
  | zero => exact h
  | succ n ih => exact ih (cs_inj h)
/-- a word whose lowest bit is none is only shifted -/
theorem cs_shl (x : W32) (h : x.getLsbD 31 = false) : cs (x <<< 1) = x := by
  unfold cs
  have : (x <<< 1).getLsbD 0 = false := by simp
  rw [this]; simp only [Bool.false_eq_true, if_false, BitVec.xor_zero]
  apply BitVec.eq_of_getLsbD_eq
  intro i hi
  simp only [BitVec.getLsbD_ushiftRight, BitVec.getLsbD_shiftLeft]
  by_cases h31 : i = 31
  · subst h31; simpa using h.symm
  · have : 1 + i < 32 := by omega
    simp [this]
theorem csN_shl (k : Nat) (x : W32) (hk : k ≤ 32) (h : x.toNat < 2 ^ (32 - k)) : csN k (x <<< k) = x := by
  induction k with
  | zero => simp [csN]
  | succ k ih =>
    have h2 : 2 ^ (32 - (k+1)) ≤ 2 ^ (32 - k) := Nat.pow_le_pow_right (by omega) (by omega)
    rw [csN_succ', show x <<< (k+1) = (x <<< k) <<< 1 from (BitVec.shiftLeft_add x k 1)]
    rw [cs_shl, ih (by omega) (by omega)]
    rw [BitVec.getLsbD_shiftLeft]
    have : x.getLsbD (31 - k) = false := by
      rw [BitVec.getLsbD]
      apply Nat.testBit_lt_two_pow
      rw [show 31 - k = 32 - (k+1) by omega]
      exact h
    simp [this]
theorem lo4_hi (w : W32) : w = ((w >>> 4) <<< 4) ^^^ (w &&& 15#32) := by
  apply BitVec.eq_of_getLsbD_eq
  intro i hi
  have h15 : (15#32 : W32).getLsbD i = decide (i < 4) := by
    have : ∀ i : Fin 32, (15#32 : W32).getLsbD i.1 = decide (i.1 < 4) := by decide
    exact this ⟨i, hi⟩
  simp only [BitVec.getLsbD_xor, BitVec.getLsbD_shiftLeft, BitVec.getLsbD_ushiftRight, BitVec.getLsbD_and, h15]
  by_cases h4 : i < 4
  · simp [h4]
  · simp [h4, hi, show 4 + (i - 4) = i by omega]
theorem csN4 (w : W32) : csN 4 w = (w >>> 4) ^^^ csN 4 (w &&& 15#32) := by
  conv => lhs; rw [lo4_hi w]
  rw [csN_xor, csN_shl 4 (w >>> 4) (by omega)]
  rw [BitVec.toNat_ushiftRight, Nat.shiftRight_eq_div_pow]
  have := w.isLt
  omega
def cB (c : UInt8) : W32 := c.toBitVec.setWidth 32
/-- the words behind bytes -/
def cF (w : W32) (bs : List UInt8) : W32 := bs.foldl (fun w c => csN 8 (w ^^^ cB c)) w
theorem cF_nil (w : W32) : cF w [] = w := rfl
theorem cF_cons (w : W32) (c : UInt8) (bs : List UInt8) : cF w (c :: bs) = cF (csN 8 (w ^^^ cB c)) bs := rfl
theorem cF_append (w : W32) (xs ys : List UInt8) : cF w (xs ++ ys) = cF (cF w xs) ys := by simp [cF]
theorem cF_xor (xs : List UInt8) : ∀ (v w : W32), cF (v ^^^ w) xs = csN (8 * xs.length) v ^^^ cF w xs := by
  induction xs with
  | nil => intro v w; rfl
  | cons c xs ih =>
    intro v w
    rw [cF_cons, cF_cons, BitVec.xor_assoc, csN_xor, ih, List.length_cons, Nat.mul_succ, csN_add]
theorem cF_inj (xs : List UInt8) {v w : W32} (h : cF v xs = cF w xs) : v = w := by
  have h1 := cF_xor xs v w
  have h2 := cF_xor xs (v ^^^ w) w
  rw [BitVec.xor_assoc, BitVec.xor_self, BitVec.xor_zero, h] at h2
  have h3 : csN (8 * xs.length) (v ^^^ w) = 0#32 := by
    have := congrArg (· ^^^ cF w xs) h2
    simpa [BitVec.xor_assoc] using this.symm
  rw [← csN_zero (8 * xs.length)] at h3
  exact BitVec.xor_eq_zero_iff.1 (csN_inj _ h3)
/-! the model's numbers -/
def U (x : W32) : Int := (x.toNat : Int)
theorem U_nn (x : W32) : 0 ≤ U x := by unfold U; omega
theorem U_lt (x : W32) : U x < 4294967296 := by unfold U; have := x.isLt; omega
theorem U_inj {x y : W32} (h : U x = U y) : x = y := by unfold U at h; exact BitVec.eq_of_toNat_eq (by omega)
theorem U_of (n : Int) (h0 : 0 ≤ n) (h1 : n < 4294967296) : ∃ x : W32, n = U x :=
  ⟨BitVec.ofNat 32 n.toNat, by unfold U; rw [BitVec.toNat_ofNat, Nat.mod_eq_of_lt (by omega)]; omega⟩
theorem ofInt_U (z : W32) : BitVec.ofInt 32 (U z) = z := by unfold U; simp
theorem wrap_U (z : W32) : IntKind.u32.wrap (z.toNat : Int) = U z := by rw [IntKind.wrap_u32]; unfold U; have := z.isLt; omega
theorem U_and (x y : W32) : Go.bits .and .u32 (U x) (U y) = U (x &&& y) := by unfold Go.bits; simp only [IntKind.bits, ofInt_U]; exact wrap_U _
theorem U_xor (x y : W32) : Go.bits .xor .u32 (U x) (U y) = U (x ^^^ y) := by unfold Go.bits; simp only [IntKind.bits, ofInt_U]; exact wrap_U _
theorem U_div (x : W32) (k : Nat) : U x / (2 ^ k : Nat) = U (x >>> k) := by unfold U; rw [BitVec.toNat_ushiftRight, Nat.shiftRight_eq_div_pow]; simp
theorem U_div2 (x : W32) : U x / (2 : Int) = U (x >>> 1) := by simpa using U_div x 1
theorem U_div16 (x : W32) : U x / (16 : Int) = U (x >>> 4) := by simpa using U_div x 4
theorem U_and1 (x : W32) : Go.bits .and .u32 (U x) 1 = if x.getLsbD 0 then 1 else 0 := by
  rw [show (1 : Int) = U 1#32 from rfl, U_and]
  have : x &&& 1#32 = if x.getLsbD 0 then 1#32 else 0#32 := by
    apply BitVec.eq_of_getLsbD_eq
    intro i hi
    rw [BitVec.getLsbD_and]
    by_cases h : i = 0
    · subst h; cases hx : x.getLsbD 0 <;> simp
    · have : (1#32 : W32).getLsbD i = false := by
        have : ∀ i : Fin 32, i.1 ≠ 0 → (1#32 : W32).getLsbD i.1 = false := by decide
        exact this ⟨i, hi⟩ h
      rw [this]; cases hx : x.getLsbD 0 <;> simp [this]
  rw [this]; cases x.getLsbD 0 <;> rfl
def crcStep (x : Int) : Int := Go.bits .xor .u32 (x / 2) ((2197175160 * (Go.bits .and .u32 x 1)) % 4294967296)
theorem crcStep_U (x : W32) : crcStep (U x) = U (cs x) := by
  unfold crcStep cs
  rw [U_and1, U_div2]
  cases x.getLsbD 0
  · simp only [Bool.false_eq_true, if_false]; exact U_xor _ 0#32
  · simp only [if_true]; exact U_xor _ cP
def crcIter : Nat → Int → Int
  | 0, x => x
  | n+1, x => crcStep (crcIter n x)
theorem crcIter_U (n : Nat) (x : W32) : crcIter n (U x) = U (csN n x) := by
  induction n with
  | zero => rfl
  | succ n ih => show crcStep (crcIter n (U x)) = _; rw [ih, crcStep_U]; rfl
def crcNib (w n : Int) : Int := Go.bits .xor .u32 (w / 16) (crcIter 4 ((Go.bits .and .u32 (Go.bits .xor .u32 w n) 15).toNat : Int))
theorem crcNib_U (w n : W32) (h : n >>> 4 = 0#32) : crcNib (U w) (U n) = U (csN 4 (w ^^^ n)) := by
  unfold crcNib
  rw [U_xor, show (15 : Int) = U 15#32 from rfl, U_and, U_div16, show (((U ((w ^^^ n) &&& 15#32)).toNat : Nat) : Int) = U ((w ^^^ n) &&& 15#32) by have := U_nn ((w ^^^ n) &&& 15#32); omega,
    crcIter_U, U_xor, csN4 (w ^^^ n), BitVec.ushiftRight_xor_distrib, h, BitVec.xor_zero]
def nibs (bs : List UInt8) : List Int := bs.flatMap fun c => [Go.bits .and .u8 (c.toNat : Int) 15 % 4294967296, (c.toNat : Int) / 16 % 4294967296]
theorem nibs_append (xs ys : List UInt8) : nibs (xs ++ ys) = nibs xs ++ nibs ys := by simp [nibs]
theorem nibs_cons (x : UInt8) (ys : List UInt8) : nibs (x :: ys) = [Go.bits .and .u8 (x.toNat : Int) 15 % 4294967296, (x.toNat : Int) / 16 % 4294967296] ++ nibs ys := by simp [nibs]
theorem nibs_length (xs : List UInt8) : (nibs xs).length = 2 * xs.length := by
  induction xs with
  | nil => rfl
  | cons x xs ih => rw [nibs_cons, List.length_append, ih, List.length_cons]; simp; omega
theorem flatten_split (bss : List (List UInt8)) (k : Nat) (h : k < bss.length) : bss.flatten = (bss.take k).flatten ++ bss[k] ++ (bss.drop (k+1)).flatten := by
  have := congrArg List.flatten (List.take_append_drop k bss)
  rw [List.drop_eq_getElem_cons h] at this
  rw [List.flatten_append, List.flatten_cons] at this
  rw [← this, List.append_assoc]
theorem byte_parts : ∀ c : BitVec 8, ((c &&& 15#8).setWidth 32 >>> 4 : W32) = 0#32 ∧ ((c >>> 4).setWidth 32 >>> 4 : W32) = 0#32 ∧ ((c &&& 15#8).setWidth 32 : W32) ^^^ ((c >>> 4).setWidth 32 <<< 4) = c.setWidth 32 := by decide +kernel
theorem nib_lo (c : UInt8) : Go.bits .and .u8 (c.toNat : Int) 15 % 4294967296 = U ((c.toBitVec &&& 15#8).setWidth 32) := by
  have h8 : Go.bits .and .u8 (c.toNat : Int) 15 = (c.toNat : Int) % 16 := Go.u8_and15 _ (by omega) (by have := c.toBitVec.isLt; show ((c.toBitVec.toNat : Nat) : Int) < 256; omega)
  rw [h8]
  unfold U
  rw [BitVec.toNat_setWidth, BitVec.toNat_and, show (15#8).toNat = 2 ^ 4 - 1 from rfl, Nat.and_two_pow_sub_one_eq_mod]
  show (((c.toBitVec.toNat : Nat) : Int) % 16) % 4294967296 = _
  omega
theorem nib_hi (c : UInt8) : (c.toNat : Int) / (16 : Int) % (4294967296 : Int) = U ((c.toBitVec >>> 4).setWidth 32) := by
  unfold U
  rw [BitVec.toNat_setWidth, BitVec.toNat_ushiftRight, Nat.shiftRight_eq_div_pow]
  show (((c.toBitVec.toNat : Nat) : Int) / 16) % 4294967296 = _
  omega
def crcFold (l : List Int) : Int := l.foldl crcNib 4294967295
theorem crcFold_snoc (l : List Int) (x : Int) : crcFold (l ++ [x]) = crcNib (crcFold l) x := by simp [crcFold]
theorem fold_nibs (bs : List UInt8) : ∀ w : W32, (nibs bs).foldl crcNib (U w) = U (cF w bs) := by
  induction bs with
  | nil => intro w; rfl
  | cons c bs ih =>
    intro w
    obtain ⟨h1, h2, h3⟩ := byte_parts c.toBitVec
    rw [nibs_cons, List.foldl_append, List.foldl_cons, List.foldl_cons, List.foldl_nil, nib_lo c, nib_hi c, crcNib_U _ _ h1, crcNib_U _ _ h2, ih, cF_cons]
    congr 2
    have h4 : csN 4 (((c.toBitVec >>> 4).setWidth 32 : W32) <<< 4) = (c.toBitVec >>> 4).setWidth 32 := csN_shl 4 _ (by omega) (by
      rw [BitVec.toNat_setWidth, BitVec.toNat_ushiftRight, Nat.shiftRight_eq_div_pow]; have := c.toBitVec.isLt; omega)
    unfold cB
    rw [show csN 8 = csN (4 + 4) from rfl, csN_add, ← h3, ← BitVec.xor_assoc, csN_xor 4 (w ^^^ _), h4]
/-- THE CHECK SUM OF BYTES. -/
def cSum (bs : List UInt8) : W32 := ~~~ (cF (BitVec.allOnes 32) bs)
theorem crcFold_eq (bs : List UInt8) : crcFold (nibs bs) = U (cF (BitVec.allOnes 32) bs) := fold_nibs bs (BitVec.allOnes 32)
theorem U_not (x : W32) : Go.bits .xor .u32 IntKind.u32.max (U x) = U (~~~ x) := by
  rw [show IntKind.u32.max = U (BitVec.allOnes 32) from rfl, U_xor, BitVec.allOnes_xor]
theorem bits_u32_bd (op : BinOp) (a b : Int) : 0 ≤ Go.bits op .u32 a b ∧ Go.bits op .u32 a b < 4294967296 := by
  unfold Go.bits; simp only []; rw [IntKind.wrap_u32]; omega
theorem and15_bd (a : Int) : 0 ≤ Go.bits .and .u32 a 15 ∧ Go.bits .and .u32 a 15 < 16 := by
  unfold Go.bits; simp only [IntKind.bits]; rw [IntKind.wrap_u32]
  have : (BitVec.ofInt 32 a &&& BitVec.ofInt 32 15).toNat < 16 := by
    rw [BitVec.toNat_and, show (BitVec.ofInt 32 15).toNat = 2 ^ 4 - 1 from rfl, Nat.and_two_pow_sub_one_eq_mod]; omega
  have h2 : ((BitVec.ofInt 32 a &&& BitVec.ofInt 32 15).toNat : Int) < 16 := by exact_mod_cast this
  constructor
  · exact Int.emod_nonneg _ (by decide)
  · rw [Int.emod_eq_of_lt (by omega) (by omega)]; exact h2
theorem crcFold_bd (l : List Int) : 0 ≤ crcFold l ∧ crcFold l < 4294967296 := by
  rcases List.eq_nil_or_concat l with rfl | ⟨l', x, rfl⟩
  · exact ⟨by decide, by decide⟩
  · rw [List.concat_eq_append, crcFold_snoc]; exact bits_u32_bd _ _ _
/-! products -/
def cE : W32 := 0x80000000#32
def cM : Nat → W32 → W32 → W32
  | 0, _, _ => 0#32
  | i+1, a, b => cM i a b ^^^ (if b.getLsbD (31 - i) then csN i a else 0#32)
theorem cM_xor (i : Nat) (a a' b : W32) : cM i (a ^^^ a') b = cM i a b ^^^ cM i a' b := by
  induction i with
  | zero => simp [cM]
  | succ i ih =>
    simp only [cM, ih, csN_xor]
    cases b.getLsbD (31 - i)
    · simp
    · simp only [if_true]; ac_rfl
theorem cM_csN (n i : Nat) (a b : W32) : cM i (csN n a) b = csN n (cM i a b) := by
  induction i with
  | zero => simp [cM, csN_zero]
  | succ i ih =>
    simp only [cM, ih, csN_xor]
    cases b.getLsbD (31 - i)
    · simp [csN_zero]
    · simp only [if_true]; rw [← csN_add, Nat.add_comm, csN_add]
theorem cM_zero (i : Nat) (b : W32) : cM i 0#32 b = 0#32 := by
  have := cM_xor i 0#32 0#32 b
  rw [BitVec.xor_self] at this
  rw [this, BitVec.xor_self]
theorem csN_cE : ∀ i : Fin 32, csN i.1 cE = BitVec.twoPow 32 (31 - i.1) := by decide
theorem cM_cE_bit (b : W32) : ∀ i, i ≤ 32 → ∀ j, j < 32 → (cM i cE b).getLsbD j = (decide (32 - i ≤ j) && b.getLsbD j) := by
  intro i
  induction i with
  | zero => intro _ j hj; simp [cM, show ¬ 32 ≤ j by omega]
  | succ i ih =>
    intro hi j hj
    simp only [cM]
    rw [BitVec.getLsbD_xor, ih (by omega) j hj, csN_cE ⟨i, by omega⟩]
    by_cases h : j = 31 - i
    · subst h
      have e1 : decide (32 - i ≤ 31 - i) = false := decide_eq_false (by omega)
      have e2 : decide (32 - (i + 1) ≤ 31 - i) = true := decide_eq_true (by omega)
      rw [e1, e2]
      cases hb : b.getLsbD (31 - i)
      · simp
      · simp [hj]
    · have e1 : decide (32 - (i + 1) ≤ j) = decide (32 - i ≤ j) := by simp only [decide_eq_decide]; omega
      rw [e1]
      cases hb : b.getLsbD (31 - i)
      · simp
      · simp [hj, h]
theorem cM_cE (b : W32) : cM 32 cE b = b := by
  apply BitVec.eq_of_getLsbD_eq
  intro j hj
  rw [cM_cE_bit b 32 (by omega) j hj]
  simp
theorem cM_lin (g : W32 → W32) (h1 : ∀ x y, g (x ^^^ y) = g x ^^^ g y) (h0 : g 0#32 = 0#32) (hc : ∀ n x, g (csN n x) = csN n (g x)) (i : Nat) (a b : W32) : g (cM i a b) = cM i (g a) b := by
  induction i with
  | zero => exact h0
  | succ i ih =>
    simp only [cM, h1, ih]
    cases b.getLsbD (31 - i)
    · simp [h0]
    · simp [hc]
theorem cM_comm (a b : W32) : cM 32 a b = cM 32 b a := by
  have h : ∀ a b c : W32, cM 32 (cM 32 a b) c = cM 32 (cM 32 a c) b := fun a b c =>
    cM_lin (fun x => cM 32 x c) (fun x y => cM_xor 32 x y c) (cM_zero 32 c) (fun n x => cM_csN n 32 x c) 32 a b
  have := h cE a b
  rw [cM_cE, cM_cE] at this
  exact this
theorem cM_pow (E : Nat) (a : W32) : cM 32 a (csN E cE) = csN E a := by
  rw [cM_comm, cM_csN, cM_cE]
theorem cM_stop (i : Nat) (hi : i ≤ 32) (a b : W32) (h : b <<< i = 0#32) : cM i a b = cM 32 a b := by
  have key : ∀ d, i + d ≤ 32 → cM (i + d) a b = cM i a b := by
    intro d
    induction d with
    | zero => intro _; rfl
    | succ d ih =>
      intro hd
      rw [← Nat.add_assoc]
      simp only [cM]
      rw [ih (by omega)]
      have hz : b.getLsbD (31 - (i + d)) = false := by
        have := congrArg (fun z : W32 => z.getLsbD (31 - d)) h
        simp only [BitVec.getLsbD_shiftLeft, BitVec.getLsbD_zero] at this
        rw [show 31 - d - i = 31 - (i + d) by omega] at this
        have h1 : 31 - d < 32 := by omega
        have h2 : ¬ 31 - d < i := by omega
        simpa [h1, h2] using this
      rw [hz]; simp
  have := key (32 - i) (by omega)
  rw [show i + (32 - i) = 32 by omega] at this
  exact this.symm
/-! division -/
def bb (b : Bool) : W32 := if b then 1#32 else 0#32
def wd : List Bool → W32
  | [] => 0#32
  | b :: l => (wd l <<< 1) ^^^ bb b
theorem bb_bit (b : Bool) (j : Nat) : (bb b).getLsbD j = (decide (j = 0) && b) := by
  cases b
  · simp [bb]
  · simp only [bb, if_true, Bool.and_true]
    by_cases h : j < 32
    · have : ∀ i : Fin 32, (1#32 : W32).getLsbD i.1 = decide (i.1 = 0) := by decide
      exact this ⟨j, h⟩
    · rw [BitVec.getLsbD_of_ge _ _ (by omega)]; simp; omega
theorem wd_bit (l : List Bool) : ∀ j, j < 32 → (wd l).getLsbD j = l.getD j false := by
  induction l with
  | nil => intro j _; simp [wd]
  | cons b l ih =>
    intro j hj
    simp only [wd]
    rw [BitVec.getLsbD_xor, BitVec.getLsbD_shiftLeft, bb_bit]
    cases j with
    | zero => simp
    | succ j => simp [hj, ih j (by omega)]
/-- one bit of the dividend more -/
def fd1 (w : W32) (b : Bool) : W32 := cs w ^^^ (if b then cE else 0#32)
/-- one bit of a message more -/
def gd1 (w : W32) (b : Bool) : W32 := cs (w ^^^ bb b)
theorem gd_wd (m : List Bool) (hm : m.length ≤ 32) : ∀ w : W32, m.foldl gd1 w = csN m.length (w ^^^ wd m) := by
  induction m with
  | nil => intro w; simp [wd, csN]
  | cons b m ih =>
    intro w
    rw [List.length_cons, List.foldl_cons, ih (by simp at hm; omega), csN_succ']
    congr 1
    have hb : (wd m).getLsbD 31 = false := by
      rw [wd_bit _ _ (by omega)]
      have : m.length ≤ 31 := by simp at hm; omega
      rw [List.getD_eq_getElem?_getD, List.getElem?_eq_none this]; rfl
    have h2 := cs_xor (w ^^^ bb b) (wd m <<< 1)
    rw [cs_shl _ hb] at h2
    rw [show w ^^^ wd (b :: m) = (w ^^^ bb b) ^^^ (wd m <<< 1) by simp only [wd]; ac_rfl, h2]
    rfl
theorem gd_fd (m : List Bool) : ∀ w : W32, m.foldl gd1 w = ((m ++ List.replicate 32 false).drop 32).foldl fd1 (w ^^^ wd ((m ++ List.replicate 32 false).take 32)) := by
  induction m with
  | nil =>
    intro w
    have : wd (List.replicate 32 false) = 0#32 := by decide
    show w = w ^^^ wd (List.replicate 32 false)
    rw [this, BitVec.xor_zero]
  | cons b m ih =>
    intro w
    rw [List.foldl_cons, ih]
    obtain ⟨l, hl⟩ : ∃ l, m ++ List.replicate 32 false = l := ⟨_, rfl⟩
    have hlen : 32 ≤ l.length := by rw [← hl]; simp
    rw [List.cons_append, hl]
    rw [show (b :: l).drop 32 = l.drop 31 from rfl, List.drop_eq_getElem_cons (show 31 < l.length by omega), List.foldl_cons]
    congr 1
    have hg : fd1 (w ^^^ wd ((b :: l).take 32)) l[31] = gd1 w b ^^^ wd (l.take 32) := by
      unfold fd1 gd1
      have hw : wd ((b :: l).take 32) = (wd (l.take 31) <<< 1) ^^^ bb b := rfl
      have hb : (wd (l.take 31)).getLsbD 31 = false := by
        rw [wd_bit _ _ (by omega), List.getD_eq_getElem?_getD, List.getElem?_take_eq_none (by omega)]; rfl
      have h2 := cs_xor (w ^^^ bb b) (wd (l.take 31) <<< 1)
      rw [cs_shl _ hb] at h2
      rw [hw, show w ^^^ (wd (l.take 31) <<< 1 ^^^ bb b) = (w ^^^ bb b) ^^^ (wd (l.take 31) <<< 1) by ac_rfl, h2, BitVec.xor_assoc]
      · congr 1
        apply BitVec.eq_of_getLsbD_eq
        intro j hj
        rw [BitVec.getLsbD_xor, wd_bit _ _ hj, wd_bit _ _ hj]
        have h31 : (if l[31] = true then cE else 0#32).getLsbD j = (decide (j = 31) && l[31]) := by
          cases l[31]
          · simp
          · have : ∀ i : Fin 32, cE.getLsbD i.1 = decide (i.1 = 31) := by decide
            simpa using this ⟨j, hj⟩
        rw [h31]
        simp only [List.getD_eq_getElem?_getD, List.getElem?_take]
        by_cases h : j = 31
        · subst h; rw [if_neg (by omega), if_pos (by omega), List.getElem?_eq_getElem (show 31 < l.length by omega)]; simp
        · have : j < 31 := by omega
          rw [if_pos this, if_pos hj]
          simp [h]
    rw [hg]
/-- a byte's bits, the lowest first -/
def bits8 (c : UInt8) : List Bool := (List.range 8).map fun i => c.toBitVec.getLsbD i
theorem wd_bits8 : ∀ c : BitVec 8, wd ((List.range 8).map fun i => c.getLsbD i) = c.setWidth 32 := by decide +kernel
def bitsOf (bs : List UInt8) : List Bool := bs.flatMap bits8
theorem gd_bits (bs : List UInt8) : ∀ w : W32, (bitsOf bs).foldl gd1 w = cF w bs := by
  induction bs with
  | nil => intro w; rfl
  | cons c bs ih =>
    intro w
    rw [show bitsOf (c :: bs) = bits8 c ++ bitsOf bs by simp [bitsOf], List.foldl_append, ih, cF_cons, gd_wd _ (by simp [bits8])]
    congr 1
    rw [show (bits8 c).length = 8 by simp [bits8], show wd (bits8 c) = cB c from wd_bits8 c.toBitVec]
theorem fd_zeros (n : Nat) : ∀ w : W32, (List.replicate n false).foldl fd1 w = csN n w := by
  induction n with
  | zero => intro w; rfl
  | succ n ih => intro w; rw [List.replicate_succ, List.foldl_cons, ih, csN_succ']; simp [fd1]

theorem wd_not (l : List Bool) (h : l.length = 32) : wd (l.map (!·)) = BitVec.allOnes 32 ^^^ wd l := by
  apply BitVec.eq_of_getLsbD_eq
  intro j hj
  rw [BitVec.getLsbD_xor, wd_bit _ _ hj, wd_bit _ _ hj]
  have : j < l.length := by omega
  rw [List.getD_eq_getElem?_getD, List.getD_eq_getElem?_getD, List.getElem?_map, List.getElem?_eq_getElem this]
  have ho : (BitVec.allOnes 32).getLsbD j = true := by rw [BitVec.getLsbD_allOnes]; exact decide_eq_true hj
  rw [ho]
  cases l[j] <;> rfl
theorem sum_divides (bs : List UInt8) (l : List Bool) (hl : l = bitsOf bs ++ List.replicate 32 false) :
    ((l.drop 32).foldl fd1 (wd ((l.take 32).map (!·)))) = cF (BitVec.allOnes 32) bs := by
  subst hl
  rw [wd_not _ (by simp), ← gd_bits, gd_fd]
end Go.Proofs.Ythnnikhkmpafjaa
