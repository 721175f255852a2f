/-
  Plain law of numbers in sevens: no program in sight. No statement is proved here.
-/
import Derived.Test.YtgnnalempnbjnaaLebY
namespace Go.Proofs.Ytgnnalempnbjnaa
open Go.RowKit Go.Proofs.Ytgnnalempnbjnaa.PAll Go.Proofs.YtgnnalempnbjnaaW.PrintWords Go.Proofs.YtgnnalempnbjnaaW.PrintLast
theorem aliveT : bytebarnlaw01_alive.f = some true := by decide +kernel
theorem enc_ne {D : List Int} (h : D ≠ []) : enc D ≠ [] := by
  intro h2
  have := enc_length D
  rw [h2] at this
  exact h (List.length_eq_zero_iff.1 this.symm)
def DU (x : Int) (D : List Int) : Prop := D ≠ [] ∧ Sev D ∧ val D = x ∧ D.length ≤ 5 ∧ ∀ m : Nat, x < 128 ^ (m + 1) → D.length ≤ m + 1
def DS (x : Int) (D : List Int) : Prop := D ≠ [] ∧ Sev D ∧ sval D = x ∧ D.length ≤ 10 ∧ ∀ m : Nat, -(64 * 128 ^ m) ≤ x → x < 64 * 128 ^ m → D.length ≤ m + 1
theorem svL_fun {s : Bool} {k j : Nat} {n : Int} {L M : List (Int × Bool)} (h1 : svL s k n = some L) (h2 : svL s j n = some M) : L = M := by
  have a := svL_mono s k n L j h1
  have b := svL_mono s j n M k h2
  rw [Nat.add_comm] at b
  rw [a] at b
  exact Option.some.inj b
theorem Fl_ne {L : List (Int × Bool)} (h : Fl L) : L ≠ [] := by rintro rfl; exact h
theorem put_u (x : Int) (h0 : 0 ≤ x) (h1 : x < 4294967296) : ∃ L, svL false 11 x = some L ∧ Fl L ∧ DU x (L.map (·.1)) ∧ L.map lebByte = enc (L.map (·.1)) := by
  obtain ⟨L, hL, hlen⟩ := svL_u_some 4 x 11 h0 (by omega) (by simp; omega) (by omega)
  obtain ⟨f1, f2, f3⟩ := svL_u 11 x L h0 (by omega) hL
  refine ⟨L, hL, f1, ⟨by simpa using Fl_ne f1, f3, f2, by simpa using hlen, fun m hm => ?_⟩, lebByte_enc f1 f3⟩
  obtain ⟨L', h2, h3⟩ := svL_u_some m x (m + 1) h0 (by omega) hm (by omega)
  obtain rfl := svL_fun hL h2
  simpa using h3
theorem put_s (x : Int) (h0 : -9223372036854775808 ≤ x) (h1 : x < 9223372036854775808) : ∃ L, svL true 11 x = some L ∧ Fl L ∧ DS x (L.map (·.1)) ∧ L.map lebByte = enc (L.map (·.1)) := by
  obtain ⟨L, hL, hlen⟩ := svL_s_some 9 x 11 h0 (by omega) (by simp; omega) (by simp; omega) (by omega)
  obtain ⟨f1, f2, f3⟩ := svL_s 11 x L h0 (by omega) hL
  refine ⟨L, hL, f1, ⟨by simpa using Fl_ne f1, f3, f2, by simpa using hlen, fun m hm hm2 => ?_⟩, lebByte_enc f1 f3⟩
  obtain ⟨L', h2, h3⟩ := svL_s_some m x (m + 1) h0 (by omega) hm hm2 (by omega)
  obtain rfl := svL_fun hL h2
  simpa using h3
theorem tdm (n : Int) : (0 ≤ n → n.tdiv 128 = n / 128 ∧ n.tmod 128 = n % 128) ∧ (n < 0 → n.tdiv 128 = -((-n) / 128) ∧ n.tmod 128 = -((-n) % 128)) := by
  refine ⟨fun h => ⟨Int.tdiv_eq_ediv_of_nonneg h, Int.tmod_eq_emod_of_nonneg h⟩, fun h => ?_⟩
  obtain ⟨m, rfl⟩ : ∃ m, n = -m := ⟨-n, by omega⟩
  have hm : 0 ≤ m := by omega
  rw [Int.neg_tdiv, Int.neg_tmod, Int.tdiv_eq_ediv_of_nonneg hm, Int.tmod_eq_emod_of_nonneg hm, Int.neg_neg]
  exact ⟨rfl, rfl⟩
theorem floor_eq (n : Int) (h0 : -9223372036854775808 ≤ n) (h1 : n < 9223372036854775808) : bytebarnref01_Floor.f n = some (n / 128, n % 128) := by
  unfold bytebarnref01_Floor.f
  have := tdm n
  rcases Int.lt_or_le n 0 with h | h
  · obtain ⟨e1, e2⟩ := this.2 h
    rw [e1, e2]
    split
    · congr 1; ext <;> simp only [wrap64] <;> omega
    · congr 1; ext <;> simp only [wrap64] <;> omega
  · obtain ⟨e1, e2⟩ := this.1 h
    rw [e1, e2]
    rw [if_neg (by omega)]
    congr 1; ext <;> simp only [wrap64] <;> omega
theorem byte_mod (n : Int) : lebByte (n % 128, true) = n % 128 + 128 := by
  unfold lebByte; rw [if_pos rfl, u8_or128_right _ (by omega) (by omega)]
theorem ref_unsigned : ∀ (j k : Nat) (n : Int) (L : List (Int × Bool)), j ≤ 11 → j ≤ k → 0 ≤ n → n < 9223372036854775808 → svL false j n = some L → bytebarnref01_Unsigned.f k n = some (L.map lebByte) := by
  intro j
  induction j with
  | zero => intro _ _ _ _ _ _ _ h; simp [svL] at h
  | succ j ih =>
    intro k n L hj hk h0 h1 h
    obtain ⟨k, rfl⟩ : ∃ i, k = i + 1 := ⟨k - 1, by omega⟩
    simp only [svL] at h
    rw [sevMore_u n h0, sev7_eq n (by omega) h1] at h
    simp only [bytebarnref01_Unsigned.f]
    by_cases hm : 128 ≤ n
    · rw [if_pos (decide_eq_true hm)] at h
      obtain ⟨l, h2, h3⟩ := Option.bind_eq_some_iff.mp h
      obtain rfl := Option.some.inj h3
      have hl := svL_length _ _ _ _ h2
      obtain ⟨e1, e2⟩ := (tdm n).1 h0
      have e3 : wrap64 (n / 128) = n / 128 := by unfold wrap64; omega
      rw [if_neg (by omega), e1, e2, e3, ih k (n / 128) l (by omega) (by omega) (by omega) (by omega) h2]
      rw [Option.bind_some, Option.bind_some, if_pos (by simp; omega), List.map_cons, byte_mod]
      have e4 : wrap64 (n % 128 + 128) % 256 = n % 128 + 128 := by unfold wrap64; omega
      rw [e4]; rfl
    · rw [if_neg (by simpa using hm)] at h
      obtain rfl := Option.some.inj h
      rw [if_pos (by omega)]
      simp [lebByte]; omega
theorem ref_signed : ∀ (j k : Nat) (n : Int) (L : List (Int × Bool)), j ≤ 11 → 2 * j ≤ k → -9223372036854775808 ≤ n → n < 9223372036854775808 → svL true j n = some L → bytebarnref01_Signed.f k n = some (L.map lebByte) := by
  intro j
  induction j with
  | zero => intro _ _ _ _ _ _ _ h; simp [svL] at h
  | succ j ih =>
    intro k n L hj hk h0 h1 h
    obtain ⟨k, rfl⟩ : ∃ i, k = (i + 1) + 1 := ⟨k - 2, by omega⟩
    simp only [svL] at h
    rw [sevMore_s n h0 h1, sev7_eq n h0 h1] at h
    simp only [bytebarnref01_Signed.f, bytebarnref01_Signed.j0, floor_eq n h0 h1]
    by_cases hm : -64 ≤ n ∧ n < 64
    · rw [decide_eq_true hm.1, decide_eq_true hm.2] at h
      rw [if_neg (by simp)] at h
      obtain rfl := Option.some.inj h
      rw [if_pos (by omega), decide_eq_true hm.2, if_pos rfl]
      simp [lebByte]; omega
    · have e : (!(decide (-64 ≤ n) && decide (n < 64))) = true := by
        by_cases h2 : -64 ≤ n
        · rw [decide_eq_false (show ¬ n < 64 by omega)]; simp
        · rw [decide_eq_false h2]; rfl
      rw [if_pos e] at h
      obtain ⟨l, h2, h3⟩ := Option.bind_eq_some_iff.mp h
      obtain rfl := Option.some.inj h3
      have hl := svL_length _ _ _ _ h2
      have hd : (if n ≥ (-64 : Int) then decide (n < 64) else false) = false := by
        split
        · exact decide_eq_false (by omega)
        · rfl
      have e4 : wrap64 (n % 128 + 128) % 256 = n % 128 + 128 := by unfold wrap64; omega
      have rest : ((some (n / 128, n % 128)).bind fun bt136 => ((some (([(wrap64 (bt136.2 + 128)) % 256] : List Int) : List Int)).bind fun y138 => ((bytebarnref01_Signed.f k bt136.1).bind fun t141 => (if y138.length + t141.length < 140737488355328 then (some (y138 ++ t141)) else (none))))) = some (lebByte (n % 128, true) :: l.map lebByte) := by
        rw [Option.bind_some, Option.bind_some, ih k (n / 128) l (by omega) (by omega) (by omega) (by omega) h2, Option.bind_some, if_pos (by simp; omega), byte_mod, e4]; rfl
      by_cases h5 : n ≥ (-64 : Int)
      · rw [if_pos h5, decide_eq_false (show ¬ n < 64 by omega), if_neg (by simp)]; exact rest
      · rw [if_neg h5, if_neg (by simp)]; exact rest
theorem U_spec (x : Int) (h0 : -9223372036854775808 ≤ x) (h1 : x < 9223372036854775808) :
    (0 ≤ x ∧ x < 4294967296 ∧ ∃ D, DU x D ∧ leb_U.f x = some (enc D, 0) ∧ ∀ k, 40 ≤ k → bytebarnref01_U.f k x = some (enc D, 0)) ∨
    (¬ (0 ≤ x ∧ x < 4294967296) ∧ leb_U.f x = some ([], 2) ∧ ∀ k, bytebarnref01_U.f k x = some ([], 2)) := by
  unfold leb_U.f bytebarnref01_U.f
  by_cases h : 0 ≤ x ∧ x < 4294967296
  · obtain ⟨L, hL, f1, hD, he⟩ := put_u x h.1 h.2
    refine .inl ⟨h.1, h.2, L.map (·.1), hD, ?_, fun k hk => ?_⟩
    · rw [if_neg (by omega), if_pos (by omega)]
      unfold leb_put.f lebPutF
      rw [hL, Option.bind_some, Option.bind_some, he]
    · rw [if_neg (by omega), if_neg (by omega), ref_unsigned 11 k x L (by omega) (by omega) h.1 h1 hL, Option.bind_some, he]
  · refine .inr ⟨h, ?_, fun k => ?_⟩
    · by_cases h2 : x < 0
      · rw [if_pos h2]
      · rw [if_neg h2, if_neg (by omega)]
    · by_cases h2 : x < 0
      · rw [if_pos h2]
      · rw [if_neg h2, if_pos (by omega)]
def okS (x bits : Int) : Prop := bits = 64 ∨ (bits = 32 ∧ -2147483648 ≤ x ∧ x < 2147483648)
theorem S_spec (x bits : Int) (h0 : -9223372036854775808 ≤ x) (h1 : x < 9223372036854775808) :
    (okS x bits ∧ ∃ D, DS x D ∧ leb_S.f x bits = some (enc D, 0) ∧ ∀ k, 40 ≤ k → bytebarnref01_S.f k x bits = some (enc D, 0)) ∨
    (¬ okS x bits ∧ leb_S.f x bits = some ([], 2) ∧ ∀ k, bytebarnref01_S.f k x bits = some ([], 2)) := by
  unfold leb_S.f bytebarnref01_S.f okS
  obtain ⟨L, hL, f1, hD, he⟩ := put_s x h0 h1
  have hp : leb_put.f x true = some (enc (L.map (·.1))) := by
    unfold leb_put.f lebPutF
    rw [hL, Option.bind_some, he]
  have hr : ∀ k, 40 ≤ k → bytebarnref01_Signed.f k x = some (enc (L.map (·.1))) := fun k hk => by
    rw [ref_signed 11 k x L (by omega) (by omega) h0 h1 hL, he]
  by_cases h64 : bits = 64
  · subst h64
    refine .inl ⟨.inl rfl, _, hD, ?_, fun k hk => ?_⟩
    · rw [if_neg (by omega), if_pos rfl, hp]; rfl
    · rw [if_pos rfl, hr k hk]; rfl
  · by_cases h32 : bits = 32
    · subst h32
      by_cases h : -2147483648 ≤ x ∧ x < 2147483648
      · refine .inl ⟨.inr ⟨rfl, h⟩, _, hD, ?_, fun k hk => ?_⟩
        · rw [if_pos rfl, if_pos (by unfold wrap64 wrap32; omega), hp]; rfl
        · rw [if_neg (by omega), if_pos rfl, if_pos (by omega), if_pos (by omega), hr k hk]; rfl
      · refine .inr ⟨by rintro (h | h) <;> omega, ?_, fun k => ?_⟩
        · rw [if_pos rfl, if_neg (by unfold wrap64 wrap32; omega)]
        · rw [if_neg (by omega), if_pos rfl]
          split
          · rw [if_neg (by omega)]
          · rfl
    · refine .inr ⟨by rintro (h | h) <;> omega, ?_, fun k => ?_⟩
      · rw [if_neg h32, if_neg h64]
      · rw [if_neg h64, if_neg h32]
/-- there and back -/
theorem gU_enc (u v D : List Int) (h1 : D ≠ []) (h2 : Sev D) (h3 : D.length ≤ 5) (h4 : val D < 4294967296) : gU (u ++ (enc D ++ v)) (u.length : Int) = (val D, (u.length : Int) + D.length, 0) := by
  unfold gU
  rw [if_neg (by omega), if_neg (by simp; omega), sc_enc lastU v D u 5 h1 h2 h3]
  · have := val_nonneg h2
    simp only [Prod.mk.injEq, and_true]
    unfold wrap64; omega
  · intro h5
    obtain ⟨low, d, a1, a2, a3, a4, a5, a6, a7⟩ := digits D 4 h5 h2
    rw [← a3]
    simp at a2 a6
    exact decide_eq_true (by omega)
theorem gS_enc (u v D : List Int) (half : Int) (most : Nat) (h1 : D ≠ []) (h2 : Sev D) (h3 : D.length ≤ most)
    (h4 : (half = 8 ∧ most = 5 ∧ -2147483648 ≤ sval D ∧ sval D < 2147483648) ∨ (half = 1 ∧ most = 10 ∧ -9223372036854775808 ≤ sval D ∧ sval D < 9223372036854775808)) : gS (u ++ (enc D ++ v)) (u.length : Int) half most = (sval D, (u.length : Int) + D.length, 0) := by
  unfold gS
  rw [if_neg (by omega), if_neg (by simp; omega), sc_enc (lastS half) v D u most h1 h2 h3]
  · simp only [Prod.mk.injEq, and_true]
    unfold wrap64; omega
  · intro h5
    rcases h4 with ⟨rfl, rfl, b1, b2⟩ | ⟨rfl, rfl, b1, b2⟩
    · obtain ⟨low, d, a1, a2, a3, a4, a5, a6, a7⟩ := digits D 4 h5 h2
      rw [← a3]
      simp at a2 a7
      unfold lastS
      split at a7
      · rw [decide_eq_true (show d < 128 by omega), decide_eq_true (show 128 - 8 ≤ d by omega)]; simp
      · rw [decide_eq_true (show d < 8 by omega)]; simp
    · obtain ⟨low, d, a1, a2, a3, a4, a5, a6, a7⟩ := digits D 9 h5 h2
      rw [← a3]
      simp at a2 a7
      unfold lastS
      split at a7
      · rw [decide_eq_true (show d < 128 by omega), decide_eq_true (show 128 - 1 ≤ d by omega)]; simp
      · rw [decide_eq_true (show d < 1 by omega)]; simp
/-- what is read is in its bounds -/
theorem gU_ok {b : List Int} (hb : Byt b) {a v e : Int} (h : gU b a = (v, e, 0)) : 0 ≤ a ∧ ∃ l : List Int, l ≠ [] ∧ Sev l ∧ l.length ≤ 5 ∧ v = val l ∧ v < 4294967296 ∧ e = a + l.length ∧ e ≤ b.length := by
  unfold gU at h
  split at h
  · simp at h
  split at h
  · simp at h
  rename_i ha1 ha2
  cases hr : sc b lastU 5 a with
  | error e => rw [hr] at h; simp at h; exact absurd (h.2.2 ▸ hr) (sc_err0 _ _ _ _)
  | ok r =>
    obtain ⟨l, e'⟩ := r
    rw [hr] at h
    simp at h
    obtain ⟨rfl, rfl⟩ := h
    obtain ⟨g1, g2, g3, g4, g5, g6⟩ := sc_ok hb (by omega) (by omega) hr
    have hv := val_nonneg g2
    have hlt : val l < 4294967296 := by
      by_cases h5 : l.length = 5
      · have := g6 h5
        obtain ⟨low, d, a1, a2, a3, a4, a5, a6, a7⟩ := digits l 4 h5 g2
        rw [← a3] at this
        have := of_decide_eq_true this
        simp at a2 a6
        omega
      · have : (128 : Int) ^ l.length ≤ 128 ^ 4 := by
          have : 128 ^ l.length ≤ 128 ^ 4 := Nat.pow_le_pow_right (by omega) (by omega)
          exact_mod_cast this
        simp at this
        omega
    have hw : wrap64 (val l) = val l := by unfold wrap64; omega
    exact ⟨by omega, l, g1, g2, g3, hw, by omega, g4, by omega⟩
theorem gS_ok {b : List Int} (hb : Byt b) {a v e half : Int} {most : Nat} (hh : (half = 8 ∧ most = 5) ∨ (half = 1 ∧ most = 10)) (h : gS b a half most = (v, e, 0)) :
    0 ≤ a ∧ ∃ l : List Int, l ≠ [] ∧ Sev l ∧ l.length ≤ most ∧ v = sval l ∧ e = a + l.length ∧ e ≤ b.length ∧ (half = 8 → -2147483648 ≤ v ∧ v < 2147483648) ∧ -9223372036854775808 ≤ v ∧ v < 9223372036854775808 := by
  unfold gS at h
  split at h
  · simp at h
  split at h
  · simp at h
  rename_i ha1 ha2
  cases hr : sc b (lastS half) most a with
  | error e => rw [hr] at h; simp at h; exact absurd (h.2.2 ▸ hr) (sc_err0 _ _ _ _)
  | ok r =>
    obtain ⟨l, e'⟩ := r
    rw [hr] at h
    simp at h
    obtain ⟨rfl, rfl⟩ := h
    obtain ⟨g1, g2, g3, g4, g5, g6⟩ := sc_ok hb (by omega) (by omega) hr
    have hn : l.length ≠ 0 := fun h => g1 (List.length_eq_zero_iff.1 h)
    obtain ⟨j, hj⟩ : ∃ j, l.length = j + 1 := ⟨l.length - 1, by omega⟩
    obtain ⟨low, d, a1, a2, a3, a4, a5, a6, a7⟩ := digits l j hj g2
    have hb : (half = 8 → -2147483648 ≤ sval l ∧ sval l < 2147483648) ∧ -9223372036854775808 ≤ sval l ∧ sval l < 9223372036854775808 := by
      rw [a7]
      by_cases hfull : l.length = most
      · have hla := g6 hfull
        rw [← a3] at hla
        unfold lastS at hla
        simp only [Bool.or_eq_true, Bool.and_eq_true, decide_eq_true_eq] at hla
        rcases hh with ⟨rfl, rfl⟩ | ⟨rfl, rfl⟩
        · obtain rfl : j = 4 := by omega
          simp at a2 ⊢
          split <;> omega
        · obtain rfl : j = 9 := by omega
          simp at a2 ⊢
          split <;> omega
      · have hj8 : j ≤ 8 ∧ (half = 8 → j ≤ 3) := by omega
        have : j = 0 ∨ j = 1 ∨ j = 2 ∨ j = 3 ∨ j = 4 ∨ j = 5 ∨ j = 6 ∨ j = 7 ∨ j = 8 := by omega
        clear a7 a6 a3 g6 hj hr g4 g5 g3 hfull
        rcases this with rfl | rfl | rfl | rfl | rfl | rfl | rfl | rfl | rfl <;> simp at a2 ⊢ <;> split <;> omega
    have hw : wrap64 (sval l) = sval l := by unfold wrap64; omega
    rw [hw]
    exact ⟨by omega, l, g1, g2, g3, rfl, g4, by omega, hb.1, hb.2⟩
end Go.Proofs.Ytgnnalempnbjnaa
