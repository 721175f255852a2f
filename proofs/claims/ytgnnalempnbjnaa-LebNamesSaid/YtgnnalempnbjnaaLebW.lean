/-
  Plain law of numbers in sevens: no program in sight. No statement is proved here.
-/
import Derived.Test.YtgnnalempnbjnaaLebV
import Derived.Laws.Bits128
namespace Go.Proofs.Ytgnnalempnbjnaa
open Go.RowKit Go.Proofs.YtgnnalempnbjnaaW.PrintWords
/-! ### a scan of sevens -/
def Byt (b : List Int) : Prop := ∀ x ∈ b, 0 ≤ x ∧ x < 256
theorem Byt.rd {b : List Int} (h : Byt b) (i : Int) : 0 ≤ rd b i ∧ rd b i < 256 := by
  unfold Go.Proofs.YtgnnalempnbjnaaW.PrintWords.rd
  by_cases hi : i.toNat < b.length
  · rw [List.getD_eq_getElem?_getD, List.getElem?_eq_getElem hi]
    exact h _ (List.getElem_mem hi)
  · rw [List.getD_eq_getElem?_getD, List.getElem?_eq_none (by omega)]; simp
def sc (b : List Int) (last : Int → Bool) : Nat → Int → Except Int (List Int × Int)
  | 0, _ => .error 99
  | m + 1, at_ =>
    if at_ = (b.length : Int) then .error 5
    else if m = 0 ∧ last (rd b at_) = false then .error 8
    else if rd b at_ < 128 then .ok ([rd b at_], at_ + 1)
    else match sc b last m (at_ + 1) with
      | .error e => .error e
      | .ok (l, e) => .ok ((rd b at_ - 128) :: l, e)
theorem and127u8 (c : Int) (h0 : 0 ≤ c) (h1 : c < 256) : Go.bits .and .u8 c 127 = c % 128 := by
  show IntKind.u8.wrap (((BitVec.ofInt 8 c &&& BitVec.ofInt 8 127).toNat : Nat) : Int) = _
  have e : (BitVec.ofInt 8 c &&& BitVec.ofInt 8 127).toNat = (c % 128).toNat := by
    rw [BitVec.toNat_and, show (BitVec.ofInt 8 127).toNat = 2 ^ 7 - 1 from rfl, Nat.and_two_pow_sub_one_eq_mod, BitVec.toNat_ofInt]
    omega
  rw [e]
  simp [IntKind.wrap, IntKind.bits, IntKind.signed]
  omega
theorem or_nat (k n s : Nat) (hk : k < 64) (hn : n < 2 ^ k) : n ||| (s * 2 ^ k) % 18446744073709551616 = (n + s * 2 ^ k) % 18446744073709551616 := by
  have e : 18446744073709551616 = 2 ^ k * 2 ^ (64 - k) := by rw [← Nat.pow_add, show k + (64 - k) = 64 by omega]
  rw [e, Nat.mul_comm s, Nat.mul_mod_mul_left, Nat.mod_mul, Nat.add_mul_mod_self_left, Nat.mod_eq_of_lt hn, Nat.add_mul_div_left _ _ (Nat.two_pow_pos k), Nat.div_eq_of_lt hn, Nat.zero_add]
  rw [Nat.or_comm, ← Nat.two_pow_add_eq_or_of_lt hn, Nat.add_comm]
theorem or_step (n c : Int) (k : Nat) (hk : k < 64) (h0 : 0 ≤ n) (hn : n < 2 ^ k) (c0 : 0 ≤ c) (c1 : c < 256) :
    Go.bits .or .u64 n (IntKind.u64.wrap (IntKind.u64.wrap (Go.bits .and .u8 c 127) * 2 ^ k)) = (n + c % 128 * 2 ^ k) % 18446744073709551616 := by
  rw [and127u8 c c0 c1, IntKind.wrap_u64, IntKind.wrap_u64]
  obtain ⟨N, rfl⟩ := Int.eq_ofNat_of_zero_le h0
  obtain ⟨C, rfl⟩ := Int.eq_ofNat_of_zero_le c0
  have hN : N < 2 ^ k := by exact_mod_cast hn
  have hp : 2 ^ k ≤ 2 ^ 63 := Nat.pow_le_pow_right (by omega) (by omega)
  have e1 : ((C : Int) % 128 % 18446744073709551616) = ((C % 128 : Nat) : Int) := by omega
  have e2 : ((C : Int) % 128) = ((C % 128 : Nat) : Int) := by omega
  rw [e1, e2]
  have hs : C % 128 < 128 := Nat.mod_lt _ (by omega)
  generalize C % 128 = s at hs ⊢
  have e3 : ((s : Int) * 2 ^ k) % 18446744073709551616 = (((s * 2 ^ k) % 18446744073709551616 : Nat) : Int) := by rw [Int.natCast_emod, Int.natCast_mul, Int.natCast_pow]; rfl
  rw [e3, u64_or_nat _ _ (by omega) (Nat.mod_lt _ (by omega)), or_nat k N _ hk hN, Int.natCast_emod, Int.natCast_add, Int.natCast_mul, Int.natCast_pow]
  rfl
theorem val_nonneg : ∀ {l : List Int}, Sev l → 0 ≤ val l ∧ val l < 128 ^ l.length := by
  intro l
  induction l with
  | nil => intro _; simp [val]
  | cons s l ih =>
    intro h
    have := ih (fun x hx => h x (List.mem_cons_of_mem _ hx))
    have := h s (List.mem_cons_self ..)
    simp only [val, List.length_cons, Int.pow_succ]
    omega
theorem getL_sc (b : List Int) (hb : Byt b) (bits : Int) (most : Nat) (hbm : (bits = 32 ∧ most = 5) ∨ (bits = 64 ∧ most = 10)) (last : Int → Bool) (hl : ∀ c, 0 ≤ c → c < 256 → last c = true → c < 128) :
    ∀ (m k : Nat) (n at_ : Int) (i : Nat), i + m = most → 0 < m → m ≤ k → 0 ≤ n → n < 2 ^ (7 * i) → 0 ≤ at_ → at_ ≤ b.length →
      getL b bits last k n at_ (7 * i : Nat) = match sc b last m at_ with
        | .error e => some (0, 0, 0, e)
        | .ok (l, e) => some ((n + val l * 2 ^ (7 * i)) % 18446744073709551616, e, ((7 * (i + l.length) : Nat) : Int), 0) := by
  intro m
  induction m with
  | zero => intro _ _ _ _ _ h; omega
  | succ m ih =>
    intro k n at_ i him _ hk h0 hn ha hab
    obtain ⟨k, rfl⟩ : ∃ j, k = j + 1 := ⟨k - 1, by omega⟩
    simp only [getL, sc]
    rw [if_pos (show ((7 * i : Nat) : Int) < bits by omega)]
    by_cases hat : at_ = (b.length : Int)
    · rw [if_pos hat, if_pos hat]
    · rw [if_neg hat, if_neg hat, if_pos ha, if_pos (show at_ < (b.length : Int) by omega)]
      have hc := hb.rd at_
      have tn : ((7 * i : Nat) : Int).toNat = 7 * i := by omega
      rw [tn, or_step n _ (7 * i) (by omega) h0 hn hc.1 hc.2]
      have hs : ((7 * i : Nat) : Int) + 7 = ((7 * (i + 1) : Nat) : Int) := by omega
      by_cases hm : m = 0
      · rw [if_pos (show bits ≤ ((7 * i : Nat) : Int) + 7 by omega)]
        by_cases hla : last (rd b at_) = true
        · have hc2 := hl _ hc.1 hc.2 hla
          rw [if_pos hla, if_pos hc2, if_neg (by simp [hla]), if_pos hc2]
          simp only [val, List.length_singleton, hs]
          have : rd b at_ % 128 = rd b at_ := by omega
          rw [this]; simp
        · rw [if_neg hla, if_pos ⟨hm, by simpa using hla⟩]
      · rw [if_neg (show ¬ bits ≤ ((7 * i : Nat) : Int) + 7 by omega), if_neg (show ¬ (m = 0 ∧ last (rd b at_) = false) from fun h => hm h.1)]
        by_cases hc2 : rd b at_ < 128
        · rw [if_pos hc2, if_pos hc2]
          simp only [val, List.length_singleton, hs]
          have : rd b at_ % 128 = rd b at_ := by omega
          rw [this]; simp
        · rw [if_neg hc2, if_neg hc2, hs]
          have hcm : rd b at_ % 128 = rd b at_ - 128 := by omega
          have hp : (2 : Int) ^ (7 * (i + 1)) = 128 * 2 ^ (7 * i) := by
            rw [Nat.mul_add, Int.pow_add]; omega
          have hp0 : (0 : Int) < 2 ^ (7 * i) := Int.pow_pos (by omega)
          have hle : (2 : Int) ^ (7 * (i + 1)) ≤ 2 ^ 63 := by
            have : 2 ^ (7 * (i + 1)) ≤ 2 ^ 63 := Nat.pow_le_pow_right (by omega) (by omega)
            exact_mod_cast this
          have hb1 : 0 ≤ (rd b at_ - 128) * 2 ^ (7 * i) := Int.mul_nonneg (by omega) (by omega)
          have hb2 : (rd b at_ - 128) * 2 ^ (7 * i) ≤ 127 * 2 ^ (7 * i) := Int.mul_le_mul_of_nonneg_right (by omega) (by omega)
          have hsum : (n + rd b at_ % 128 * 2 ^ (7 * i)) % 18446744073709551616 = n + (rd b at_ - 128) * 2 ^ (7 * i) := by
            rw [hcm]; apply Int.emod_eq_of_lt <;> omega
          rw [hsum, ih k _ (at_ + 1) (i + 1) (by omega) (by omega) (by omega) (by omega) (by omega) (by omega) (by omega)]
          cases sc b last m (at_ + 1) with
          | error e => rfl
          | ok r =>
            obtain ⟨l, e⟩ := r
            simp only [val, List.length_cons]
            have : n + (rd b at_ - 128) * 2 ^ (7 * i) + val l * 2 ^ (7 * (i + 1)) = n + (rd b at_ - 128 + 128 * val l) * 2 ^ (7 * i) := by
              rw [hp, Int.add_mul, Int.mul_comm 128 (val l), Int.mul_assoc]; omega
            rw [this, show i + 1 + l.length = i + (l.length + 1) by omega]
theorem sc_ok {b : List Int} (hb : Byt b) {last : Int → Bool} : ∀ {m : Nat} {at_ : Int} {l : List Int} {e : Int}, 0 ≤ at_ → at_ ≤ b.length → sc b last m at_ = .ok (l, e) → l ≠ [] ∧ Sev l ∧ l.length ≤ m ∧ e = at_ + l.length ∧ e ≤ b.length ∧ (l.length = m → last (l.getLastD 0) = true) := by
  intro m
  induction m with
  | zero => intro at_ l e _ _ h; simp [sc] at h
  | succ m ih =>
    intro at_ l e h0 h1 h
    simp only [sc] at h
    have hc := hb.rd at_
    by_cases hat : at_ = (b.length : Int)
    · rw [if_pos hat] at h; cases h
    · rw [if_neg hat] at h
      by_cases hm : m = 0 ∧ last (rd b at_) = false
      · rw [if_pos hm] at h; cases h
      · rw [if_neg hm] at h
        by_cases hc2 : rd b at_ < 128
        · rw [if_pos hc2] at h
          simp only [Except.ok.injEq, Prod.mk.injEq] at h
          obtain ⟨rfl, rfl⟩ := h
          refine ⟨by simp, ?_, by simp, by simp, by omega, ?_⟩
          · intro s hs; simp at hs; omega
          · intro hlen
            simp at hlen
            simp
            by_cases hx : last (rd b at_) = true
            · exact hx
            · exact absurd ⟨hlen, by simpa using hx⟩ hm
        · rw [if_neg hc2] at h
          cases hr : sc b last m (at_ + 1) with
          | error e => rw [hr] at h; cases h
          | ok r =>
            rw [hr] at h
            obtain ⟨l', e'⟩ := r
            simp only [Except.ok.injEq, Prod.mk.injEq] at h
            obtain ⟨rfl, rfl⟩ := h
            obtain ⟨a1, a2, a3, a4, a5, a6⟩ := ih (by omega) (by omega) hr
            refine ⟨by simp, ?_, by simp; omega, by simp; omega, a5, ?_⟩
            · intro s hs
              rcases List.mem_cons.1 hs with rfl | hs
              · omega
              · exact a2 s hs
            · intro hlen
              simp at hlen
              cases l' with
              | nil => exact absurd rfl a1
              | cons x l' => simpa using a6 hlen
/-- how digits stand in bytes -/
def enc : List Int → List Int
  | [] => []
  | s :: l => if l = [] then [s] else (s + 128) :: enc l
theorem enc_length : ∀ l, (enc l).length = l.length := by
  intro l
  induction l with
  | nil => rfl
  | cons s l ih =>
    simp only [enc]
    split
    · rename_i h; subst h; rfl
    · simp [ih]
theorem enc_byt : ∀ {l}, Sev l → Byt (enc l) := by
  intro l
  induction l with
  | nil => intro _ x hx; cases hx
  | cons s l ih =>
    intro h x hx
    have hs := h s (List.mem_cons_self ..)
    simp only [enc] at hx
    split at hx
    · simp at hx; omega
    · rcases List.mem_cons.1 hx with rfl | hx
      · omega
      · exact ih (fun y hy => h y (List.mem_cons_of_mem _ hy)) x hx
theorem lebByte_enc : ∀ {L : List (Int × Bool)}, Fl L → Sev (L.map (·.1)) → L.map lebByte = enc (L.map (·.1)) := by
  intro L
  induction L with
  | nil => intro h; exact h.elim
  | cons p L ih =>
    intro h hs
    have h1 := hs p.1 (by simp)
    simp only [Fl] at h
    simp only [List.map_cons, enc]
    by_cases hL : L = []
    · subst hL
      simp only [if_true] at h
      simp [lebByte, h]
    · rw [if_neg hL] at h
      rw [if_neg (by simpa using hL), ih h.2 (fun y hy => hs y (by simp at hy ⊢; exact .inr hy))]
      unfold lebByte
      rw [if_pos h.1, u8_or128_right _ h1.1 h1.2]
theorem rd_app (u v : List Int) (i : Nat) : rd (u ++ v) (((u.length + i : Nat)) : Int) = rd v (i : Int) := by
  unfold Go.Proofs.YtgnnalempnbjnaaW.PrintWords.rd
  simp only [Int.toNat_natCast]
  rw [List.getD_eq_getElem?_getD, List.getD_eq_getElem?_getD, List.getElem?_append_right (by omega), Nat.add_sub_cancel_left]
theorem sc_enc (last : Int → Bool) (v : List Int) : ∀ (D : List Int) (u : List Int) (m : Nat), D ≠ [] → Sev D → D.length ≤ m → (D.length = m → last (D.getLastD 0) = true) →
    sc (u ++ (enc D ++ v)) last m (u.length : Int) = .ok (D, (u.length : Int) + D.length) := by
  intro D
  induction D with
  | nil => intro _ _ h; exact absurd rfl h
  | cons s D ih =>
    intro u m _ hs hm hla
    obtain ⟨m, rfl⟩ : ∃ j, m = j + 1 := ⟨m - 1, by simp at hm; omega⟩
    have h1 := hs s (List.mem_cons_self ..)
    simp only [sc]
    rw [if_neg (by simp [enc_length]; omega)]
    have hr : rd (u ++ (enc (s :: D) ++ v)) (u.length : Int) = if D = [] then s else s + 128 := by
      have := rd_app u (enc (s :: D) ++ v) 0
      simp only [Nat.add_zero] at this
      rw [this]
      simp only [enc]
      split <;> rfl
    rw [hr]
    by_cases hD : D = []
    · subst hD
      simp only [if_true]
      rw [if_neg, if_pos h1.2]
      · simp
      · rintro ⟨rfl, h2⟩
        have := hla rfl
        simp at this
        rw [this] at h2; cases h2
    · rw [if_neg hD, if_neg, if_neg (by omega)]
      · have e : u ++ (enc (s :: D) ++ v) = (u ++ [s + 128]) ++ (enc D ++ v) := by simp [enc, hD]
        have e2 : (u.length : Int) + 1 = ((u ++ [s + 128]).length : Int) := by simp
        rw [e, e2, ih (u ++ [s + 128]) m hD (fun y hy => hs y (List.mem_cons_of_mem _ hy)) (by simp at hm; omega)]
        · simp; omega
        · intro hl
          have := hla (by simp [hl])
          cases D with
          | nil => exact absurd rfl hD
          | cons x D => simpa using this
      · rintro ⟨rfl, h2⟩
        cases D with
        | nil => exact absurd rfl hD
        | cons x D => simp at hm
end Go.Proofs.Ytgnnalempnbjnaa
