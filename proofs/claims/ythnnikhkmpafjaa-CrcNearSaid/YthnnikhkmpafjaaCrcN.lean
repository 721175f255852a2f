/-
  Bytes that are unlike in at most four neighbours have unlike check sums. No statement is proved here.
-/
import Derived.Test.YthnnikhkmpafjaaCrcSum
import Derived.Lib.Bytes
namespace Go.Proofs.Ythnnikhkmpafjaa
open Go.RowKit Go.Proofs.Ythnnikhkmpafjaa.PAll Go.Proofs.YthnnikhkmpafjaaW.PrintWords Go.Proofs.YthnnikhkmpafjaaW.PrintLast
def nearL (l0 T : List Int) (k : Nat) : Nat → List Int
  | 0 => l0
  | i + 1 => (nearL l0 T k i).set (k + i) (Go.bits .xor .u8 (rd (nearL l0 T k i) ((k + i : Nat) : Int)) (rd T (i : Int)))
theorem nearL_length (l0 T : List Int) (k : Nat) : ∀ i, (nearL l0 T k i).length = l0.length := by
  intro i
  induction i with
  | zero => rfl
  | succ i ih => simp [nearL, ih]
theorem bits_u8_bd (op : BinOp) (a b : Int) : 0 ≤ Go.bits op .u8 a b ∧ Go.bits op .u8 a b < 256 := by
  have key : ∀ z : Int, 0 ≤ IntKind.u8.wrap z ∧ IntKind.u8.wrap z < 256 := by intro z; simp [IntKind.wrap, IntKind.bits, IntKind.signed]; omega
  exact key _
theorem nearL_byt {l0 T : List Int} (h : Byt l0) (k : Nat) : ∀ i, Byt (nearL l0 T k i) := by
  intro i
  induction i with
  | zero => exact h
  | succ i ih =>
    intro x hx
    simp only [nearL] at hx
    rcases List.mem_or_eq_of_mem_set hx with hx | rfl
    · exact ih x hx
    · exact bits_u8_bd _ _ _
theorem nearL_form (l0 T : List Int) (k : Nat) : ∀ i, k + i ≤ l0.length → ∃ m : List Int, m.length = i ∧ nearL l0 T k i = l0.take k ++ (m ++ l0.drop (k + i)) := by
  intro i
  induction i with
  | zero => intro h; exact ⟨[], rfl, by simp [nearL]⟩
  | succ i ih =>
    intro h
    obtain ⟨m, h1, h2⟩ := ih (by omega)
    simp only [nearL]
    generalize Go.bits .xor .u8 (rd (nearL l0 T k i) ((k + i : Nat) : Int)) (rd T (i : Int)) = v
    refine ⟨m ++ [v], by simp [h1], ?_⟩
    rw [h2, List.set_append_right _ _ (by simp; omega), List.set_append_right _ _ (by simp; omega), List.drop_eq_getElem_cons (by omega)]
    have e : k + i - (l0.take k).length - m.length = 0 := by simp; omega
    rw [e]
    simp [Nat.add_assoc]
/-- so many bytes as one word -/
def wB : List UInt8 → W32
  | [] => 0#32
  | c :: m => cB c ^^^ (wB m <<< 8)
theorem cB_bit (c : UInt8) (j : Nat) : (cB c).getLsbD j = (decide (j < 32) && c.toBitVec.getLsbD j) := by unfold cB; rw [BitVec.getLsbD_setWidth]
theorem cB_hi (c : UInt8) (j : Nat) (h : 8 ≤ j) : (cB c).getLsbD j = false := by
  rw [cB_bit, BitVec.getLsbD_of_ge _ _ (by omega)]; simp
theorem wB_hi : ∀ (m : List UInt8) (j : Nat), 8 * m.length ≤ j → (wB m).getLsbD j = false := by
  intro m
  induction m with
  | nil => intro j _; simp [wB]
  | cons c m ih =>
    intro j hj
    simp only [List.length_cons] at hj
    simp only [wB, BitVec.getLsbD_xor, cB_hi c j (by omega), BitVec.getLsbD_shiftLeft, ih (j - 8) (by omega)]
    simp
theorem wB_lt (m : List UInt8) (_h : m.length ≤ 4) : (wB m).toNat < 2 ^ (8 * m.length) := by
  apply Nat.lt_pow_two_of_testBit
  intro j hj
  exact wB_hi m j hj
theorem cF_word : ∀ (m : List UInt8) (v : W32), m.length ≤ 4 → cF v m = csN (8 * m.length) (v ^^^ wB m) := by
  intro m
  induction m with
  | nil => intro v _; simp [cF_nil, wB, csN]
  | cons c m ih =>
    intro v h
    simp only [List.length_cons] at h
    rw [cF_cons, ih _ (by omega)]
    have hs : csN 8 (wB m <<< 8) = wB m := csN_shl 8 (wB m) (by omega) (Nat.lt_of_lt_of_le (wB_lt m (by omega)) (Nat.pow_le_pow_right (by omega) (by omega)))
    have e : 8 * (c :: m).length = 8 * m.length + 8 := by simp; omega
    rw [e, csN_add, show wB (c :: m) = cB c ^^^ (wB m <<< 8) from rfl, ← BitVec.xor_assoc, csN_xor 8 _ (wB m <<< 8), hs]
theorem wB_inj : ∀ (m m' : List UInt8), m.length = m'.length → m.length ≤ 4 → wB m = wB m' → m = m' := by
  intro m
  induction m with
  | nil => intro m' h _ _; cases m' with | nil => rfl | cons _ _ => simp at h
  | cons c m ih =>
    intro m' h h4 he
    cases m' with
    | nil => simp at h
    | cons c' m' =>
      simp only [List.length_cons] at h h4
      have hb : ∀ j, (wB (c :: m)).getLsbD j = (wB (c' :: m')).getLsbD j := fun j => by rw [he]
      have e1 : c = c' := by
        apply UInt8.toBitVec_inj.1
        apply BitVec.eq_of_getLsbD_eq
        intro j hj
        have := hb j
        simp only [wB, BitVec.getLsbD_xor, BitVec.getLsbD_shiftLeft, cB_bit] at this
        simpa [hj, show j < 32 by omega] using this
      have e2 : wB m = wB m' := by
        apply BitVec.eq_of_getLsbD_eq
        intro j hj
        by_cases h24 : j + 8 < 32
        · have := hb (j + 8)
          simp only [wB, BitVec.getLsbD_xor, BitVec.getLsbD_shiftLeft, cB_hi _ (j + 8) (by omega)] at this
          simpa [h24, show ¬ j + 8 < 8 by omega] using this
        · rw [wB_hi m j (by omega), wB_hi m' j (by omega)]
      rw [e1, ih m' (by omega) (by omega) e2]
theorem cSum_near (p q m m' : List UInt8) (h : m.length = m'.length) (h4 : m.length ≤ 4) (he : cSum (p ++ (m ++ q)) = cSum (p ++ (m' ++ q))) : m = m' := by
  unfold cSum at he
  have he := congrArg (fun z => ~~~ z) he
  simp only [BitVec.not_not] at he
  rw [cF_append, cF_append, cF_append, cF_append] at he
  have he := cF_inj q he
  rw [cF_word m _ h4, cF_word m' _ (by omega), h] at he
  have he := csN_inj _ he
  have e : wB m = wB m' := by
    have := congrArg (fun z => cF (BitVec.allOnes 32) p ^^^ z) he
    simpa [← BitVec.xor_assoc] using this
  exact wB_inj m m' h h4 e
theorem u8_inj {x y : Int} (hx : 0 ≤ x ∧ x < 256) (hy : 0 ≤ y ∧ y < 256) (h : u8 x = u8 y) : x = y := by
  rw [← u8_toNat hx.1 hx.2, ← u8_toNat hy.1 hy.2, h]
theorem map_u8_inj : ∀ (a b : List Int), Byt a → Byt b → a.map u8 = b.map u8 → a = b := by
  intro a
  induction a with
  | nil => intro b _ _ h; cases b with | nil => rfl | cons _ _ => simp at h
  | cons x a ih =>
    intro b ha hb h
    cases b with
    | nil => simp at h
    | cons y b =>
      simp only [List.map_cons, List.cons.injEq] at h
      rw [u8_inj (ha x (List.mem_cons_self ..)) (hb y (List.mem_cons_self ..)) h.1, ih b (fun z hz => ha z (List.mem_cons_of_mem _ hz)) (fun z hz => hb z (List.mem_cons_of_mem _ hz)) h.2]
theorem near_law (l0 T : List Int) (k i : Nat) (hx : Byt l0) (h4 : i ≤ 4) (hk : k + i ≤ l0.length) :
    ((U (cSum ((nearL l0 T k i).map u8)) == U (cSum (l0.map u8))) == ((strOfNums (nearL l0 T k i)).toList == (strOfNums l0).toList)) = true := by
  have hc := nearL_byt (T := T) hx k i
  obtain ⟨m, h1, h2⟩ := nearL_form l0 T k i hk
  by_cases h : nearL l0 T k i = l0
  · rw [h]; simp
  · have hl : l0 = l0.take k ++ ((l0.drop k).take i ++ l0.drop (k + i)) := by
      rw [← List.drop_drop, List.take_append_drop, List.take_append_drop]
    have hs : ¬ cSum ((nearL l0 T k i).map u8) = cSum (l0.map u8) := by
      intro he
      rw [h2] at he
      rw [congrArg (List.map u8) hl] at he
      simp only [List.map_append] at he
      have := cSum_near ((l0.take k).map u8) ((l0.drop (k + i)).map u8) (m.map u8) (((l0.drop k).take i).map u8) (by simp [h1]; omega) (by simp [h1]; omega) he
      have hm : m = (l0.drop k).take i := map_u8_inj _ _ (fun x hxm => hc x (by rw [h2]; simp [hxm])) (fun x hxm => hx x (List.mem_of_mem_drop (List.mem_of_mem_take hxm))) this
      exact h (by rw [h2, hm]; exact hl.symm)
    have hu : ¬ U (cSum ((nearL l0 T k i).map u8)) = U (cSum (l0.map u8)) := fun e => hs (U_inj e)
    have hstr : ¬ (strOfNums (nearL l0 T k i)).toList = (strOfNums l0).toList := by
      rw [Go.Lib.strOfNums_toList, Go.Lib.strOfNums_toList]
      intro e
      exact h (map_u8_inj _ _ hc hx e)
    rw [beq_eq_false_iff_ne.2 hu, beq_eq_false_iff_ne.2 hstr]; rfl
end Go.Proofs.Ythnnikhkmpafjaa
