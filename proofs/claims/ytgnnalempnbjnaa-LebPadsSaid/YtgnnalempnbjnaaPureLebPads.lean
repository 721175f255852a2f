/- Padded numbers are read as the same numbers, to their last byte. No condition beyond the statement's own. -/
import Derived.Test.YtgnnalempnbjnaaLebZ
import Derived.Test.YtgnnalempnbjnaaPAllx7
namespace Go.Proofs.Ytgnnalempnbjnaa.Pure
open Go.RowKit Go.Proofs.Ytgnnalempnbjnaa Go.Proofs.Ytgnnalempnbjnaa.PAll Go.Proofs.YtgnnalempnbjnaaW.PrintWords Go.Proofs.YtgnnalempnbjnaaW.PrintLast
theorem wfi {x : Int} (h : (Lit.int .i64 x).wf = true) : -9223372036854775808 ≤ x ∧ x < 9223372036854775808 := by
  simp [Lit.wf, IntKind.min, IntKind.max, IntKind.bits, IntKind.signed] at h; omega
theorem wfb {l : List Int} (h : ∀ x ∈ l, (Lit.int .u8 x).wf = true) : Byt l := fun x hx => by
  have := h x hx
  simp [Lit.wf, IntKind.min, IntKind.max, IntKind.bits, IntKind.signed] at this; omega
theorem enc_app (s : Int) : ∀ D : List Int, enc (D ++ [s]) = D.map (· + 128) ++ [s] := by
  intro D
  induction D with
  | nil => rfl
  | cons x D ih => simp [enc, ih]
theorem val_snoc0 : ∀ D : List Int, val (D ++ [0]) = val D := by
  intro D
  induction D with
  | nil => rfl
  | cons x D ih => simp only [List.cons_append, val, ih]
theorem sval_snoc0 : ∀ D : List Int, D ≠ [] → Sev D → 0 ≤ sval D → sval (D ++ [0]) = sval D := by
  intro D
  induction D with
  | nil => intro h; exact absurd rfl h
  | cons x D ih =>
    intro _ hs h
    have h1 := hs x (List.mem_cons_self ..)
    by_cases hD : D = []
    · subst hD
      simp only [List.cons_append, List.nil_append, sval, if_true] at h ⊢
      rw [if_neg (by simp)]
      split at h
      · omega
      · rename_i h2; rw [if_neg h2]; simp
    · simp only [List.cons_append, sval] at h ⊢
      rw [if_neg hD] at h
      rw [if_neg (by simp), if_neg hD, ih hD (fun y hy => hs y (List.mem_cons_of_mem _ hy)) (by omega)]
theorem sval_snoc127 : ∀ D : List Int, D ≠ [] → Sev D → sval D < 0 → sval (D ++ [127]) = sval D := by
  intro D
  induction D with
  | nil => intro h; exact absurd rfl h
  | cons x D ih =>
    intro _ hs h
    have h1 := hs x (List.mem_cons_self ..)
    by_cases hD : D = []
    · subst hD
      simp only [List.cons_append, List.nil_append, sval, if_true] at h ⊢
      rw [if_neg (by simp)]
      split at h
      · rename_i h2; rw [if_pos h2, if_pos (by omega)]; omega
      · omega
    · simp only [List.cons_append, sval] at h ⊢
      rw [if_neg hD] at h
      rw [if_neg (by simp), if_neg hD, ih hD (fun y hy => hs y (List.mem_cons_of_mem _ hy)) (by omega)]
theorem Sev_snoc {D : List Int} (h : Sev D) {a : Int} (h0 : 0 ≤ a) (h1 : a < 128) : Sev (D ++ [a]) := by
  intro s hs
  rcases List.mem_append.1 hs with hs | hs
  · exact h s hs
  · simp at hs; omega
theorem padded_l (P : List Int → Prop) (a n : Int) (hP : ∀ D, P D → P (D ++ [a])) (hN : ∀ D, P D → D ≠ [] ∧ Sev D) (hn : n ≤ 10) : ∀ (j k : Nat) (D : List Int), P D → D.length ≤ 10 → n ≤ D.length + j → j + 1 ≤ k →
    ∃ D', bytebarnlaw01_padded.l0 k a n (enc D) = some (enc D') ∧ P D' ∧ ((D'.length : Int) ≤ D.length ∨ (D'.length : Int) ≤ n) := by
  intro j
  induction j with
  | zero =>
    intro k D h1 h2 h3 h4
    obtain ⟨k, rfl⟩ : ∃ i, k = i + 1 := ⟨k - 1, by omega⟩
    simp only [bytebarnlaw01_padded.l0]
    rw [if_neg (by rw [enc_length]; omega)]
    exact ⟨D, rfl, h1, .inl (by omega)⟩
  | succ j ih =>
    intro k D h1 h2 h3 h4
    obtain ⟨k, rfl⟩ : ∃ i, k = i + 1 := ⟨k - 1, by omega⟩
    simp only [bytebarnlaw01_padded.l0]
    by_cases hlt : (D.length : Int) < n
    · have hne := (hN D h1).1
      have hsev := (hN D h1).2
      obtain ⟨D0, s, rfl⟩ : ∃ D0 s, D = D0 ++ [s] := ⟨D.dropLast, D.getLast hne, (List.dropLast_concat_getLast hne).symm⟩
      have hs := hsev s (by simp)
      have hlen : (enc (D0 ++ [s])).length = D0.length + 1 := by rw [enc_length]; simp
      have e1 : wrap64 (((enc (D0 ++ [s])).length : Int) - 1) = (D0.length : Int) := by rw [hlen]; simp at h2; unfold wrap64; omega
      rw [if_pos (by rw [hlen]; simp at hlt; omega), e1, if_pos (by omega), if_pos (by rw [hlen]; omega)]
      have e2 : rd (enc (D0 ++ [s])) (D0.length : Int) = s := by
        rw [rd_nat _ _ (by omega)]; simp [enc_app]
      have e3 : (enc (D0 ++ [s])).set ((D0.length : Int)).toNat (Go.bits .or .u8 s 128) ++ [a] = enc (D0 ++ [s] ++ [a]) := by
        rw [u8_or128_right _ hs.1 hs.2, enc_app, enc_app]; simp
      rw [e2, Option.bind_some, if_pos (by simp [hlen]; simp at h2; omega), e3]
      obtain ⟨D', g1, g2, g3⟩ := ih k (D0 ++ [s] ++ [a]) (hP _ h1) (by simp at hlt ⊢; omega) (by simp at h3 ⊢; omega) (by omega)
      refine ⟨D', g1, g2, ?_⟩
      simp at g3 hlt ⊢; omega
    · rw [if_neg (by rw [enc_length]; exact hlt)]
      exact ⟨D, rfl, h1, .inl (by omega)⟩
theorem padded_ok (P : List Int → Prop) (a n : Int) (hP : ∀ D, P D → P (D ++ [a])) (hN : ∀ D, P D → D ≠ [] ∧ Sev D) (hn : n ≤ 10) (D : List Int) (h1 : P D) (h2 : D.length ≤ 10) (k : Nat) (hk : 12 ≤ k) :
    ∃ D', bytebarnlaw01_padded.f k (enc D) a n = some (enc D') ∧ P D' ∧ ((D'.length : Int) ≤ D.length ∨ (D'.length : Int) ≤ n) := by
  unfold bytebarnlaw01_padded.f
  rw [Option.bind_some, if_pos (by simp [enc_length]; omega), List.nil_append]
  exact padded_l P a n hP hN hn 10 k D h1 h2 (by omega) (by omega)
theorem mn_le (x y : Int) : mn x y ≤ y := by unfold mn; split <;> omega
theorem pads_S (x : Int) (z : Int) (bits most : Int) (hbm : (bits = 64 ∧ most = 10) ∨ (bits = 32 ∧ most = 5)) (wx : -9223372036854775808 ≤ x ∧ x < 9223372036854775808) (k : Nat) (hk : 40 ≤ k) :
    bytebarnlaw01_LebPads.j1 k x z true bits most = some true := by
  obtain ⟨k, rfl⟩ : ∃ i, k = (i + 1) + 1 := ⟨k - 2, by omega⟩
  simp only [bytebarnlaw01_LebPads.j1]
  rcases S_spec x bits wx.1 wx.2 with ⟨hok, D, ⟨d1, d2, d3, d4, d5⟩, h1, _⟩ | ⟨hno, h1, _⟩
  · have hlen : (D.length : Int) ≤ most := by
      rcases hbm with ⟨rfl, rfl⟩ | ⟨rfl, rfl⟩
      · omega
      · rcases hok with h | ⟨_, h⟩
        · omega
        · have := d5 4 (by simp; omega) (by simp; omega); omega
    have back : ∀ D' : List Int, D' ≠ [] → Sev D' → sval D' = x → (D'.length : Int) ≤ most → leb_GetS.f (enc D') 0 bits = some (x, (D'.length : Int), 0) := by
      intro D' b1 b2 b3 b4
      rw [show leb_GetS.f (enc D') 0 bits = lebGetSF (enc D') 0 bits from rfl, lebGetSF_eq (enc_byt b2)]
      have e : enc D' = [] ++ (enc D' ++ []) := by simp
      unfold gSb
      rcases hok with rfl | ⟨rfl, h⟩
      · rw [if_neg (by omega), if_pos rfl, e]
        have := gS_enc [] [] D' 1 10 b1 b2 (by omega) (.inr ⟨rfl, rfl, by omega, by omega⟩)
        simp only [List.length_nil] at this
        rw [show (0 : Int) = ((0 : Nat) : Int) from rfl, this, b3]; simp
      · rw [if_pos rfl, e]
        have := gS_enc [] [] D' 8 5 b1 b2 (by omega) (.inl ⟨rfl, rfl, by omega, by omega⟩)
        simp only [List.length_nil] at this
        rw [show (0 : Int) = ((0 : Nat) : Int) from rfl, this, b3]; simp
    rw [h1, Option.bind_some]
    have hn0 : D.length ≠ 0 := fun h => d1 (List.length_eq_zero_iff.1 h)
    simp only [if_true, bytebarnlaw01_LebPads.j2, Bool.not_true, Bool.false_eq_true, if_false]
    rw [if_neg (by rw [enc_length]; omega)]
    generalize hg : mn (wrap64 (((enc D).length : Int) + (Int.tmod (wrap64 z) 10))) most = n
    have hn : n ≤ most := hg ▸ mn_le _ _
    by_cases hx : x < 0
    · rw [if_pos hx]
      obtain ⟨D', p1, p2, p3⟩ := padded_ok (fun D => D ≠ [] ∧ Sev D ∧ sval D = x) 127 n (fun D h => ⟨by simp, Sev_snoc h.2.1 (by omega) (by omega), by rw [sval_snoc127 D h.1 h.2.1 (by omega)]; exact h.2.2⟩) (fun D h => ⟨h.1, h.2.1⟩) (by omega) D ⟨d1, d2, d3⟩ d4 k (by omega)
      rw [p1, Option.bind_some, back D' p2.1 p2.2.1 p2.2.2 (by omega), Option.bind_some]
      simp [enc_length]
    · rw [if_neg hx]
      obtain ⟨D', p1, p2, p3⟩ := padded_ok (fun D => D ≠ [] ∧ Sev D ∧ sval D = x) 0 n (fun D h => ⟨by simp, Sev_snoc h.2.1 (by omega) (by omega), by rw [sval_snoc0 D h.1 h.2.1 (by omega)]; exact h.2.2⟩) (fun D h => ⟨h.1, h.2.1⟩) (by omega) D ⟨d1, d2, d3⟩ d4 k (by omega)
      rw [p1, Option.bind_some, back D' p2.1 p2.2.1 p2.2.2 (by omega), Option.bind_some]
      simp [enc_length]
  · rw [h1, Option.bind_some, if_neg (by omega)]
    simp [bytebarnlaw01_LebPads.j2]
theorem LebPads : bytebarnlaw01_LebPads.Pure := by
  intro x w z hx _
  refine ⟨60, ?_⟩
  have wx := wfi hx
  unfold bytebarnlaw01_LebPads.f
  rw [aliveT, Option.bind_some]
  have main : ∀ bits most : Int, (bits = 64 ∧ most = 10) ∨ (bits = 32 ∧ most = 5) → bytebarnlaw01_LebPads.j0 60 x z true bits most = some true := by
    intro bits most hbm
    have j1 := pads_S x z bits most hbm wx 59 (by omega)
    simp only [bytebarnlaw01_LebPads.j0]
    rcases U_spec x wx.1 wx.2 with ⟨x0, x1, D, ⟨d1, d2, d3, d4, d5⟩, h1, _⟩ | ⟨hno, h1, _⟩
    · rw [h1, Option.bind_some]
      have hn0 : D.length ≠ 0 := fun h => d1 (List.length_eq_zero_iff.1 h)
      simp only [if_true]
      rw [if_neg (by rw [enc_length]; omega)]
      generalize hg : mn (wrap64 (((enc D).length : Int) + (Int.tmod (wrap64 z) 10))) 5 = n
      have hn : n ≤ 5 := hg ▸ mn_le _ _
      obtain ⟨D', p1, p2, p3⟩ := padded_ok (fun D => D ≠ [] ∧ Sev D ∧ val D = x) 0 n (fun D h => ⟨by simp, Sev_snoc h.2.1 (by omega) (by omega), by rw [val_snoc0]; exact h.2.2⟩) (fun D h => ⟨h.1, h.2.1⟩) (by omega) D ⟨d1, d2, d3⟩ (by omega) 59 (by omega)
      have back : leb_GetU.f (enc D') 0 = some (x, (D'.length : Int), 0) := by
        rw [show leb_GetU.f (enc D') 0 = lebGetUF (enc D') 0 from rfl, lebGetUF_eq (enc_byt p2.2.1)]
        have e : enc D' = [] ++ (enc D' ++ []) := by simp
        have := gU_enc [] [] D' p2.1 p2.2.1 (by omega) (by omega)
        simp only [List.length_nil] at this
        rw [e, show (0 : Int) = ((0 : Nat) : Int) from rfl, this, p2.2.2]; simp
      rw [p1, Option.bind_some, back, Option.bind_some]
      simp only [if_true, enc_length]
      exact j1
    · rw [h1, Option.bind_some, if_neg (by omega)]
      exact j1
  split
  · exact main 64 10 (.inl ⟨rfl, rfl⟩)
  · exact main 32 5 (.inr ⟨rfl, rfl⟩)
end Go.Proofs.Ytgnnalempnbjnaa.Pure
