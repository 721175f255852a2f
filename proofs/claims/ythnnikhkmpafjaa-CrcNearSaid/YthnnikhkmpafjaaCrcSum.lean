/-
  The document's own check sum of bytes is the divided one. No statement is proved here.
-/
import Derived.Test.YthnnikhkmpafjaaCrcPl
import Derived.Test.YthnnikhkmpafjaaCrcC
namespace Go.Proofs.Ythnnikhkmpafjaa
open Go.RowKit Go.Proofs.Ythnnikhkmpafjaa.PAll Go.Proofs.YthnnikhkmpafjaaW.PrintWords Go.Proofs.YthnnikhkmpafjaaW.PrintLast
def Byt (b : List Int) : Prop := ∀ x ∈ b, 0 ≤ x ∧ x < 256
def bytB (b : List Int) : Bool := b.all fun x => decide (0 ≤ x) && decide (x < 256)
theorem byt_of {b : List Int} (h : bytB b = true) : Byt b := fun x hx => by
  have := List.all_eq_true.1 h x hx
  simpa using this
theorem bytB_of {b : List Int} (h : Byt b) : bytB b = true := List.all_eq_true.2 fun x hx => by
  have := h x hx
  simp [this.1, this.2]
theorem bitsOf_length (bs : List UInt8) : (bitsOf bs).length = 8 * bs.length := by
  induction bs with
  | nil => rfl
  | cons c bs ih =>
    unfold bitsOf at ih ⊢
    rw [List.flatMap_cons, List.length_append, ih]
    simp [bits8]; omega
theorem bits_of_byte (c : UInt8) : (List.range 8).map (fun j => (c.toBitVec.setWidth 32 : W32).getLsbD j) = bits8 c := by
  unfold bits8
  apply List.map_congr_left
  intro j hj
  have : j < 8 := List.mem_range.1 hj
  rw [BitVec.getLsbD_setWidth]
  simp; omega
theorem sum_l0 (xs : List Int) (hx : Byt xs) (hl : xs.length ≤ 1000000) (r : Option Int) (k0 : Nat) (hk0 : 40 ≤ k0) : ∀ (d i : Nat), i + d = xs.length →
    (∀ k, k0 ≤ k → bytebarnref03_Sum.l1 k (bitsOf (xs.map u8) ++ List.replicate 32 false) 0 = r) →
    bytebarnref03_Sum.l0 (k0 + d + 1) xs (bitsOf ((xs.take i).map u8)) (i : Int) = r := by
  intro d
  induction d with
  | zero =>
    intro i hi h
    simp only [bytebarnref03_Sum.l0]
    have hlen : (bitsOf ((xs.take i).map u8)).length ≤ 8000000 := by rw [bitsOf_length]; simp; omega
    rw [if_neg (by omega), if_pos (by omega)]
    have : xs.take i = xs := List.take_of_length_le (by omega)
    rw [this]
    exact h k0 (Nat.le_refl _)
  | succ d ih =>
    intro i hi h
    rw [show k0 + (d + 1) + 1 = (k0 + d + 1) + 1 by omega]
    simp only [bytebarnref03_Sum.l0]
    have hi2 : i < xs.length := by omega
    have hb := hx xs[i] (List.getElem_mem hi2)
    have hr : rd xs (i : Int) % 4294967296 = U ((u8 xs[i]).toBitVec.setWidth 32) := by
      have : rd xs (i : Int) = xs[i] := by unfold rd; simp [hi2]
      rw [this]
      have := u8_toNat hb.1 hb.2
      unfold U
      rw [BitVec.toNat_setWidth]
      have h2 : (u8 xs[i]).toBitVec.toNat = (u8 xs[i]).toNat := rfl
      rw [h2]
      omega
    have hlen : (bitsOf ((xs.take i).map u8)).length ≤ 8000000 := by rw [bitsOf_length]; simp; omega
    have e2 : wrap64 ((i : Int) + 1) = ((i + 1 : Nat) : Int) := by unfold wrap64; omega
    rw [if_pos (by omega), if_pos (by omega), hr, show (8 : Int) = ((8 : Nat) : Int) from rfl, bits_f _ 8 (by omega) _ (by omega), Option.bind_some, bits_of_byte, if_pos (by rw [show (bits8 (u8 xs[i])).length = 8 from rfl]; omega), e2]
    have e3 : bitsOf ((xs.take i).map u8) ++ bits8 (u8 xs[i]) = bitsOf ((xs.take (i + 1)).map u8) := by
      rw [List.take_succ_eq_append_getElem hi2, List.map_append]
      unfold bitsOf
      rw [List.flatMap_append]; simp
    rw [e3]
    exact ih (i + 1) (by omega) h
theorem sum_l1 (l : List Bool) (hl : 32 ≤ l.length) (hx : l.length < 140737488355328) (k0 : Nat) (hk0 : 20 * l.length + 40 ≤ k0) : ∀ (d q : Nat), q + d = 32 →
    bytebarnref03_Sum.l1 (k0 + d + 1) ((l.take q).map (!·) ++ l.drop q) (q : Int) = some (U (~~~ ((l.drop 32).foldl fd1 (wd ((l.take 32).map (!·)))))) := by
  intro d
  induction d with
  | zero =>
    intro q hq
    obtain rfl : q = 32 := by omega
    simp only [bytebarnref03_Sum.l1]
    rw [if_neg (by omega)]
    have hlen : ((l.take 32).map (!·) ++ l.drop 32).length = l.length := by simp; omega
    obtain ⟨r, h1, h2, h3⟩ := left_f ((l.take 32).map (!·) ++ l.drop 32) (by omega) (by omega) k0 (by omega)
    rw [h1, Option.bind_some, word_f r h2 k0 (by omega), Option.bind_some, h3]
    have e1 : ((l.take 32).map (!·) ++ l.drop 32).drop 32 = l.drop 32 := List.drop_left' (by simp; omega)
    have e2 : ((l.take 32).map (!·) ++ l.drop 32).take 32 = (l.take 32).map (!·) := List.take_left' (by simp; omega)
    rw [e1, e2]
    congr 1
    unfold U
    rw [BitVec.toNat_not]
    have := ((l.drop 32).foldl fd1 (wd ((l.take 32).map (!·)))).isLt
    omega
  | succ d ih =>
    intro q hq
    rw [show k0 + (d + 1) + 1 = (k0 + d + 1) + 1 by omega]
    simp only [bytebarnref03_Sum.l1]
    have hq2 : q < l.length := by omega
    have hlen : ((l.take q).map (!·) ++ l.drop q).length = l.length := by simp; omega
    have e2 : wrap64 ((q : Int) + 1) = ((q + 1 : Nat) : Int) := by unfold wrap64; omega
    have e1 : rdOf false ((l.take q).map (!·) ++ l.drop q) (q : Int) = l[q] := by
      unfold rdOf
      simp only [Int.toNat_natCast]
      rw [List.getD_eq_getElem?_getD, List.getElem?_append_right (by simp; omega), List.length_map, List.length_take, Nat.min_eq_left (by omega), Nat.sub_self, List.getElem?_drop]
      simp [hq2]
    have e3 : ((l.take q).map (!·) ++ l.drop q).set ((q : Int)).toNat (!l[q]) = (l.take (q + 1)).map (!·) ++ l.drop (q + 1) := by
      rw [Int.toNat_natCast, List.set_append_right _ _ (by simp; omega), List.length_map, List.length_take, Nat.min_eq_left (by omega), Nat.sub_self, List.drop_eq_getElem_cons hq2, List.set_cons_zero, List.take_succ_eq_append_getElem hq2, List.map_append]
      simp
    rw [if_pos (by omega), if_pos (by omega), if_pos (by omega), e1, e2, e3]
    exact ih (q + 1) (by omega)
theorem sum_f (xs : List Int) (hx : Byt xs) (hl : xs.length ≤ 1000000) : ∃ k, bytebarnref03_Sum.f k xs = some (U (cSum (xs.map u8))) := by
  refine ⟨(20 * (8 * xs.length + 32) + 40 + 33) + xs.length + 1, ?_⟩
  unfold bytebarnref03_Sum.f
  have h := sum_l0 xs hx hl (some (U (cSum (xs.map u8)))) (20 * (8 * xs.length + 32) + 40 + 33) (by omega) xs.length 0 (by omega) ?_
  · simpa [bitsOf] using h
  · intro k hk
    have hlen : (bitsOf (xs.map u8) ++ List.replicate 32 false).length = 8 * xs.length + 32 := by simp [bitsOf_length]
    have h1 := sum_l1 (bitsOf (xs.map u8) ++ List.replicate 32 false) (by omega) (by omega) (k - 33) (by omega) 32 0 (by omega)
    rw [show k - 33 + 32 + 1 = k by omega] at h1
    have h2 : bytebarnref03_Sum.l1 k (bitsOf (xs.map u8) ++ List.replicate 32 false) 0 = some (U (~~~ (((bitsOf (xs.map u8) ++ List.replicate 32 false).drop 32).foldl fd1 (wd (((bitsOf (xs.map u8) ++ List.replicate 32 false).take 32).map (!·)))))) := by simpa using h1
    rw [h2, sum_divides _ _ rfl]
    rfl
end Go.Proofs.Ythnnikhkmpafjaa
