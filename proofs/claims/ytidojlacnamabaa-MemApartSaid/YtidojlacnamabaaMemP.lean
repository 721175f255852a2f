/-
  Memories as lists of cells: what the machine's functions come to. No statement is proved here.
-/
import Derived.Test.YtidojlacnamabaaMemL
namespace Go.Proofs.Ytidojlacnamabaa
open Go.RowKit Go.Proofs.Ytidojlacnamabaa.PAll Go.Proofs.YtidojlacnamabaaW.PrintWords Go.Proofs.YtidojlacnamabaaW.PrintLast Go.Proofs.YtidojlacnamabaaW.PrintMore
set_option linter.unusedVariables false
theorem w64 {x : Int} (h0 : -9223372036854775808 ≤ x) (h1 : x ≤ 9223372036854775807) : wrap64 x = x := by unfold wrap64; omega
/-- cells that may be, behind a place -/
def chk (p : Int) : Int → List S40 → Bool
  | _, [] => true
  | last, c :: l => decide (c.f1 ≠ 0) && (decide (last < c.f0) && (decide (c.f0 < p * 65536) && chk p c.f0 l))
def okM (p m : Int) (l : List S40) : Bool := decide (0 ≤ p) && (decide (p ≤ m) && (decide (m ≤ 65536) && chk p (-1) l))
theorem okM_iff {p m : Int} {l : List S40} : okM p m l = true ↔ 0 ≤ p ∧ p ≤ m ∧ m ≤ 65536 ∧ chk p (-1) l = true := by simp [okM]
theorem rd_drop {l : List S40} {i : Nat} (h : i < l.length) : l.drop i = rd_T40 l (i : Int) :: l.drop (i + 1) := by
  rw [rd40 h]; exact List.drop_eq_getElem_cons h
theorem check_l0 (p : Int) (h : Bool) (m : Int) (l l2 : List S40) (hp0 : 0 ≤ p) (hp : p ≤ 65536) (hl : l.length ≤ 9223372036854775807) : ∀ (d k i : Nat) (last : Int), i ≤ l.length → l.length - i = d → d < k →
    mem_Check.l0 k last l (l.length : Int) (i : Int) h p m l2 = some (if chk p last (l.drop i) = true then 0 else 8) := by
  intro d
  induction d with
  | zero =>
    intro k i last h1 h2 hk
    obtain ⟨k, rfl⟩ : ∃ q, k = q + 1 := ⟨k - 1, by omega⟩
    obtain rfl : i = l.length := by omega
    simp only [mem_Check.l0]
    rw [if_neg (by omega), List.drop_length]; rfl
  | succ d ih =>
    intro k i last h1 h2 hk
    obtain ⟨k, rfl⟩ : ∃ q, k = q + 1 := ⟨k - 1, by omega⟩
    simp only [mem_Check.l0]
    rw [if_pos (by omega), if_pos (by omega), if_pos (by omega), rd_drop (show i < l.length by omega)]
    generalize rd_T40 l (i : Int) = c
    simp only [chk]
    rw [show wrap64 (p * 65536) = p * 65536 from w64 (by omega) (by omega)]
    by_cases c1 : c.f1 = 0
    · rw [if_pos c1]; simp [c1]
    · rw [if_neg c1]
      by_cases c2 : c.f0 ≤ last
      · rw [if_pos c2]; simp [show ¬ last < c.f0 by omega]
      · rw [if_neg c2]
        by_cases c3 : c.f0 ≥ p * 65536
        · rw [if_pos c3]; simp [show ¬ c.f0 < p * 65536 by omega]
        · rw [if_neg c3, show wrap64 ((i : Int) + 1) = ((i + 1 : Nat) : Int) from by rw [w64 (by omega) (by omega)]; rfl, ih k (i + 1) c.f0 (by omega) (by omega) (by omega)]
          simp [c1, show last < c.f0 by omega, show c.f0 < p * 65536 by omega]
theorem check_f (k : Nat) (h : Bool) (p m : Int) (l : List S40) (hl : l.length ≤ 9223372036854775807) (hk : l.length + 1 < k) :
    mem_Check.f k h p m l = some (if (h || (decide (p = 0) && decide (m = 0))) && okM p m l then 0 else 8) := by
  obtain ⟨k, rfl⟩ : ∃ q, k = q + 1 := ⟨k - 1, by omega⟩
  have key : ∀ g : Bool, 0 ≤ p → p ≤ m → mem_Check.j0 (k + 1) (decide (m > 65536)) g p m l = some (if okM p m l = true then 0 else 8) := by
    intro g h0 h1
    simp only [mem_Check.j0]
    by_cases c : m > 65536
    · rw [if_pos (by simpa using c)]; simp [okM, show ¬ m ≤ 65536 by omega]
    · rw [if_neg (by simpa using c)]
      have := check_l0 p g m l l h0 (by omega) hl l.length k 0 (-1) (by omega) (by omega) (by omega)
      simp only [Int.natCast_zero, List.drop_zero] at this
      rw [this]; simp [okM, h0, h1, show m ≤ 65536 by omega]
  have bad : ∀ g : Bool, mem_Check.j0 (k + 1) true g p m l = some 8 := fun g => by simp [mem_Check.j0]
  unfold mem_Check.f
  cases h with
  | true =>
    rw [if_pos rfl]
    by_cases c1 : p < 0
    · rw [if_pos c1, bad]; simp [okM, show ¬ 0 ≤ p by omega]
    · rw [if_neg c1]
      by_cases c2 : p > m
      · rw [if_pos c2, bad]; simp [okM, show ¬ p ≤ m by omega]
      · rw [if_neg c2, key _ (by omega) (by omega)]; simp
  | false =>
    rw [if_neg (by simp)]
    by_cases c1 : p = 0
    · rw [if_pos c1]
      by_cases c2 : m = 0
      · rw [if_pos c2, if_neg (by omega), if_neg (by omega), key _ (by omega) (by omega)]; simp [c1, c2]
      · rw [if_neg c2, bad]; simp [c2]
    · rw [if_neg c1, bad]; simp [c1]
theorem there_f (k : Nat) (h : Bool) (p m : Int) (l : List S40) (hl : l.length ≤ 9223372036854775807) (hk : l.length + 1 < k) :
    mem_there.f k h p m l = some (if h && okM p m l then 0 else 8) := by
  unfold mem_there.f
  cases h with
  | true => rw [if_pos rfl, check_f k true p m l hl hk]; simp
  | false => rw [if_neg (by simp)]; simp
theorem chk_srt {p : Int} (hp : p ≤ 65536) : ∀ {l : List S40} {last : Int}, chk p last l = true → srtB (last + 1) l = true := by
  intro l
  induction l with
  | nil => intro _ _; rfl
  | cons c l ih =>
    intro last h
    simp only [chk, Bool.and_eq_true, decide_eq_true_eq] at h
    simp only [srtB, Bool.and_eq_true, decide_eq_true_eq]
    exact ⟨by omega, by omega, ih h.2.2.2⟩
theorem chk_nz {p : Int} : ∀ {l : List S40} {last : Int}, chk p last l = true → ∀ c ∈ l, c.f1 ≠ 0 ∧ last < c.f0 ∧ c.f0 < p * 65536 := by
  intro l
  induction l with
  | nil => intro _ _ c hc; simp at hc
  | cons c l ih =>
    intro last h x hx
    simp only [chk, Bool.and_eq_true, decide_eq_true_eq] at h
    rcases List.mem_cons.1 hx with rfl | hx
    · exact ⟨h.1, h.2.1, h.2.2.1⟩
    · have := ih h.2.2.2 x hx; exact ⟨this.1, by omega, this.2.2⟩
theorem chk_of {p : Int} : ∀ {l : List S40} {last : Int}, srtB (last + 1) l = true → (∀ c ∈ l, c.f1 ≠ 0 ∧ c.f0 < p * 65536) → chk p last l = true := by
  intro l
  induction l with
  | nil => intro _ _ _; rfl
  | cons c l ih =>
    intro last h hx
    simp only [srtB, Bool.and_eq_true, decide_eq_true_eq] at h
    simp only [chk, Bool.and_eq_true, decide_eq_true_eq]
    have h0 := hx c (List.mem_cons_self ..)
    exact ⟨h0.1, by omega, h0.2, ih h.2.2 (fun y hy => hx y (List.mem_cons_of_mem _ hy))⟩
theorem srt_mono {lo lo' : Int} {l : List S40} (h : srtB lo l = true) (hl : lo' ≤ lo) : srtB lo' l = true := by
  cases l with
  | nil => rfl
  | cons c l =>
    simp only [srtB, Bool.and_eq_true, decide_eq_true_eq] at h ⊢
    exact ⟨by omega, h.2⟩
theorem srt_ge {lo : Int} {l : List S40} (h : srtB lo l = true) : ∀ c ∈ l, lo ≤ c.f0 ∧ c.f0 < 1099511627776 := fun c hc => by
  obtain ⟨i, hi, rfl⟩ := List.mem_iff_getElem.1 hc
  exact srtB_ge h i hi
theorem srt_cons {lo : Int} {c : S40} {l : List S40} (h0 : lo ≤ c.f0) (h1 : c.f0 < 1099511627776) (h : srtB lo l = true) (hc : ∀ x ∈ l, c.f0 < x.f0) : srtB lo (c :: l) = true := by
  simp only [srtB, Bool.and_eq_true, decide_eq_true_eq]
  refine ⟨h0, h1, ?_⟩
  cases l with
  | nil => rfl
  | cons d l =>
    simp only [srtB, Bool.and_eq_true, decide_eq_true_eq] at h ⊢
    have := hc d (List.mem_cons_self ..)
    exact ⟨by omega, h.2⟩
theorem srt_filter {lo : Int} (q : S40 → Bool) : ∀ {l : List S40}, srtB lo l = true → srtB lo (l.filter q) = true := by
  intro l
  induction l generalizing lo with
  | nil => intro _; rfl
  | cons c l ih =>
    intro h
    simp only [srtB, Bool.and_eq_true, decide_eq_true_eq] at h
    have hi := ih h.2.2
    rw [List.filter_cons]
    split
    · simp only [srtB, Bool.and_eq_true, decide_eq_true_eq]; exact ⟨h.1, h.2.1, hi⟩
    · exact srt_mono hi (by omega)
theorem srt_append {lo : Int} : ∀ {a b : List S40}, srtB lo a = true → srtB lo b = true → (∀ x ∈ a, ∀ y ∈ b, x.f0 < y.f0) → srtB lo (a ++ b) = true := by
  intro a
  induction a generalizing lo with
  | nil => intro b _ h _; exact h
  | cons c a ih =>
    intro b h hb hab
    have h' := h
    simp only [srtB, Bool.and_eq_true, decide_eq_true_eq] at h
    have hm : ∀ y ∈ b, c.f0 < y.f0 := fun y hy => hab c (List.mem_cons_self ..) y hy
    rw [List.cons_append]
    refine srt_cons h.1 h.2.1 (ih (srt_mono h.2.2 (by omega)) hb (fun x hx y hy => hab x (List.mem_cons_of_mem _ hx) y hy)) (fun x hx => ?_)
    rcases List.mem_append.1 hx with hx | hx
    · have := (srt_ge h.2.2 x hx).1; omega
    · exact hm x hx
/-- the byte at a place -/
def lk : List S40 → Int → Int
  | [], _ => 0
  | c :: l, a => if c.f0 = a then c.f1 else lk l a
theorem lk_none {a : Int} : ∀ {l : List S40}, (∀ c ∈ l, c.f0 ≠ a) → lk l a = 0 := by
  intro l
  induction l with
  | nil => intro _; rfl
  | cons c l ih => intro h; simp only [lk]; rw [if_neg (h c (List.mem_cons_self ..)), ih (fun x hx => h x (List.mem_cons_of_mem _ hx))]
theorem lk_append {a : Int} : ∀ {x y : List S40}, (∀ c ∈ x, c.f0 ≠ a) → lk (x ++ y) a = lk y a := by
  intro x
  induction x with
  | nil => intro y _; rfl
  | cons c x ih => intro y h; simp only [List.cons_append, lk]; rw [if_neg (h c (List.mem_cons_self ..)), ih (fun z hz => h z (List.mem_cons_of_mem _ hz))]
theorem lk_append_l {a : Int} : ∀ {x y : List S40}, (∀ c ∈ y, c.f0 ≠ a) → lk (x ++ y) a = lk x a := by
  intro x
  induction x with
  | nil => intro y h; exact lk_none h
  | cons c x ih => intro y h; simp only [List.cons_append, lk]; rw [ih h]
theorem lk_filter (q : Int → Bool) (a : Int) : ∀ (l : List S40), lk (l.filter fun c => q c.f0) a = if q a = true then lk l a else 0 := by
  intro l
  induction l with
  | nil => simp [lk]
  | cons c l ih =>
    rw [List.filter_cons]
    by_cases hq : q c.f0 = true
    · rw [if_pos hq]; simp only [lk]
      by_cases hc : c.f0 = a
      · rw [if_pos hc, if_pos hc, ← hc, if_pos hq]
      · rw [if_neg hc, if_neg hc, ih]
    · rw [if_neg hq, ih]; simp only [lk]
      by_cases hc : c.f0 = a
      · rw [← hc, if_neg hq, if_neg hq]
      · rw [if_neg hc]
/-- memories whose bytes are alike are alike -/
theorem lk_ext {lo : Int} : ∀ {l l' : List S40}, srtB lo l = true → srtB lo l' = true → (∀ c ∈ l, c.f1 ≠ 0) → (∀ c ∈ l', c.f1 ≠ 0) → (∀ a, lk l a = lk l' a) → l = l' := by
  intro l
  induction l generalizing lo with
  | nil =>
    intro l' _ _ _ h2 h
    cases l' with
    | nil => rfl
    | cons d l' => have := h d.f0; simp only [lk, if_true] at this; exact absurd this.symm (h2 d (List.mem_cons_self ..))
  | cons c l ih =>
    intro l' h h' h1 h2 he
    have hs := h
    have hs' := h'
    cases l' with
    | nil => have := he c.f0; simp only [lk, if_true] at this; exact absurd this (h1 c (List.mem_cons_self ..))
    | cons d l' =>
      simp only [srtB, Bool.and_eq_true, decide_eq_true_eq] at h h'
      have e0 : c.f0 = d.f0 := by
        have hc := he c.f0
        have hd := he d.f0
        simp only [lk, if_true] at hc hd
        by_cases e : c.f0 = d.f0
        · exact e
        · rw [if_neg (fun e' => e e'.symm)] at hc
          rw [if_neg e] at hd
          rcases Int.lt_or_gt_of_ne e with hlt | hgt
          · rw [lk_none (fun x hx => by have := (srt_ge h'.2.2 x hx).1; omega)] at hc; exact absurd hc (h1 c (List.mem_cons_self ..))
          · rw [lk_none (fun x hx => by have := (srt_ge h.2.2 x hx).1; omega)] at hd; exact absurd hd.symm (h2 d (List.mem_cons_self ..))
      have e1 : c.f1 = d.f1 := by have hc := he c.f0; simp only [lk, if_true] at hc; rw [if_pos e0.symm] at hc; exact hc
      have et : l = l' := by
        refine ih h.2.2 (by rw [e0]; exact h'.2.2) (fun x hx => h1 x (List.mem_cons_of_mem _ hx)) (fun x hx => h2 x (List.mem_cons_of_mem _ hx)) (fun a => ?_)
        have := he a
        simp only [lk] at this
        by_cases ha : c.f0 = a
        · rw [lk_none (fun x hx => by have := (srt_ge h.2.2 x hx).1; omega), lk_none (fun x hx => by have := (srt_ge h'.2.2 x hx).1; omega)]
        · rw [if_neg ha, if_neg (by omega)] at this; exact this
      subst et
      cases c; cases d; simp at e0 e1; simp [e0, e1]
theorem take_cnt {lo : Int} (a : Int) : ∀ {l : List S40}, srtB lo l = true → l.take (cntL l a) = l.filter (fun c => decide (c.f0 < a)) := by
  intro l
  induction l generalizing lo with
  | nil => intro _; rfl
  | cons c l ih =>
    intro h
    simp only [srtB, Bool.and_eq_true, decide_eq_true_eq] at h
    unfold cntL
    by_cases hc : c.f0 < a
    · rw [List.countP_cons_of_pos (by simpa using hc), List.take_succ_cons, List.filter_cons_of_pos (by simpa using hc)]
      exact congrArg (c :: ·) (ih h.2.2)
    · rw [List.countP_cons_of_neg (by simpa using hc), List.filter_cons_of_neg (by simpa using hc)]
      have : l.countP (fun c => decide (c.f0 < a)) = 0 := by
        rw [List.countP_eq_zero]; intro x hx; have := (srt_ge h.2.2 x hx).1; simp; omega
      rw [this]
      symm; rw [List.take_zero, List.filter_eq_nil_iff]; intro x hx; have := (srt_ge h.2.2 x hx).1; simp; omega
theorem drop_cnt {lo : Int} (a : Int) : ∀ {l : List S40}, srtB lo l = true → l.drop (cntL l a) = l.filter (fun c => decide (a ≤ c.f0)) := by
  intro l
  induction l generalizing lo with
  | nil => intro _; rfl
  | cons c l ih =>
    intro h
    simp only [srtB, Bool.and_eq_true, decide_eq_true_eq] at h
    unfold cntL
    by_cases hc : c.f0 < a
    · rw [List.countP_cons_of_pos (by simpa using hc), List.drop_succ_cons, List.filter_cons_of_neg (by simp; omega)]
      exact ih h.2.2
    · rw [List.countP_cons_of_neg (by simpa using hc)]
      have : l.countP (fun c => decide (c.f0 < a)) = 0 := by
        rw [List.countP_eq_zero]; intro x hx; have := (srt_ge h.2.2 x hx).1; simp; omega
      rw [this]
      symm; rw [List.drop_zero, List.filter_eq_self]; intro x hx
      rcases List.mem_cons.1 hx with rfl | hx
      · simp; omega
      · have := (srt_ge h.2.2 x hx).1; simp; omega
theorem cnt_le (l : List S40) (a : Int) : cntL l a ≤ l.length := List.countP_le_length
theorem cnt_mono (l : List S40) {a b : Int} (h : a ≤ b) : cntL l a ≤ cntL l b := by
  unfold cntL; apply List.countP_mono_left; intro x _ hx; simp at hx ⊢; omega
theorem mid_cnt {lo : Int} {l : List S40} (h : srtB lo l = true) {a b : Int} (hab : a ≤ b) : (l.take (cntL l b)).drop (cntL l a) = l.filter (fun c => decide (a ≤ c.f0) && decide (c.f0 < b)) := by
  rw [take_cnt b h]
  have e : cntL l a = cntL (l.filter (fun c => decide (c.f0 < b))) a := by
    unfold cntL
    rw [List.countP_filter]
    apply List.countP_congr
    intro x _
    simp; omega
  rw [e, drop_cnt a (srt_filter _ h), List.filter_filter]
/-- bytes laid by cells -/
def layS (at_ : Int) : List Int → List S40 → List Int
  | x, [] => x
  | x, c :: l => layS at_ (x.set (c.f0 - at_).toNat c.f1) l
theorem layS_length (at_ : Int) : ∀ (l : List S40) (x : List Int), (layS at_ x l).length = x.length := by
  intro l
  induction l with
  | nil => intro x; rfl
  | cons c l ih => intro x; simp [layS, ih]
theorem layS_get {lo : Int} (at_ : Int) : ∀ (l : List S40) (x : List Int) (i : Nat), srtB lo l = true → (∀ c ∈ l, at_ ≤ c.f0) → i < x.length → (layS at_ x l).getD i 0 = if (∃ c ∈ l, c.f0 = at_ + i) then lk l (at_ + i) else x.getD i 0 := by
  intro l
  induction l generalizing lo with
  | nil => intro x i _ _ _; simp [layS]
  | cons c l ih =>
    intro x i h hge hi
    have hs := h
    simp only [srtB, Bool.and_eq_true, decide_eq_true_eq] at h
    have h0 := hge c (List.mem_cons_self ..)
    simp only [layS]
    rw [ih (x.set (c.f0 - at_).toNat c.f1) i h.2.2 (fun y hy => hge y (List.mem_cons_of_mem _ hy)) (by simpa using hi)]
    by_cases hc : c.f0 = at_ + i
    · have hno : ¬ ∃ d ∈ l, d.f0 = at_ + i := by
        rintro ⟨d, hd, he⟩; have := (srt_ge h.2.2 d hd).1; omega
      rw [if_neg hno, if_pos ⟨c, List.mem_cons_self .., hc⟩]
      simp only [lk]; rw [if_pos hc]
      have : (c.f0 - at_).toNat = i := by omega
      rw [this]; simp [List.getD, hi]
    · by_cases hex : ∃ d ∈ l, d.f0 = at_ + i
      · obtain ⟨d, hd, he⟩ := hex
        rw [if_pos ⟨d, hd, he⟩, if_pos ⟨d, List.mem_cons_of_mem _ hd, he⟩]
        simp only [lk]; rw [if_neg hc]
      · have hno : ¬ ∃ d ∈ c :: l, d.f0 = at_ + i := by
          rintro ⟨d, hd, he⟩
          rcases List.mem_cons.1 hd with rfl | hd
          · exact hc he
          · exact hex ⟨d, hd, he⟩
        rw [if_neg hex, if_neg hno]
        have : (c.f0 - at_).toNat ≠ i := by omega
        simp [List.getD, this]
theorem some_l0 (at_ : Int) (l : List S40) (hl : l.length ≤ 9223372036854775806) (h0 : 0 ≤ at_) : ∀ (d k i : Nat) (x : List Int), i ≤ l.length → l.length - i = d → d < k → x.length < 9223372036854775807 → (∀ c ∈ l, at_ ≤ c.f0 ∧ c.f0 < at_ + x.length ∧ c.f0 < 1099511627776) →
    mem_some.l0 k at_ x l (l.length : Int) (i : Int) = some (layS at_ x (l.drop i)) := by
  intro d
  induction d with
  | zero =>
    intro k i x h1 h2 hk hx hc
    obtain ⟨k, rfl⟩ : ∃ q, k = q + 1 := ⟨k - 1, by omega⟩
    obtain rfl : i = l.length := by omega
    simp only [mem_some.l0]
    rw [if_neg (by omega), List.drop_length]; rfl
  | succ d ih =>
    intro k i x h1 h2 hk hx hc
    obtain ⟨k, rfl⟩ : ∃ q, k = q + 1 := ⟨k - 1, by omega⟩
    simp only [mem_some.l0]
    have hi : i < l.length := by omega
    rw [if_pos (by omega), if_pos (by omega), if_pos (by omega), rd_drop hi]
    have hm := hc (rd_T40 l (i : Int)) (by rw [rd40 hi]; exact List.getElem_mem hi)
    generalize rd_T40 l (i : Int) = c at hm
    rw [show wrap64 (c.f0 - at_) = c.f0 - at_ from w64 (by omega) (by omega), if_pos (by omega), if_pos (by omega), show wrap64 ((i : Int) + 1) = ((i + 1 : Nat) : Int) from by rw [w64 (by omega) (by omega)]; rfl, ih k (i + 1) _ (by omega) (by omega) (by omega) (by simpa using hx) (by simpa using hc)]
    rfl
/-- the bytes from a place on -/
def byts (l : List S40) (at_ : Int) (many : Nat) : List Int := (List.range many).map fun (i : Nat) => lk l (at_ + i)
theorem some_f (k : Nat) (h : Bool) (p m : Int) (l : List S40) (at_ : Int) (many : Nat) (hs : srtB 0 l = true) (h0 : 0 ≤ at_) (h1 : at_ + many < 1099511627776) (hk : l.length < k) :
    mem_some.f k h p m l at_ (many : Int) = some (byts l at_ many) := by
  have hlen := srtB_len hs (by omega)
  unfold mem_some.f mem_place.f
  rw [if_pos (by omega), if_pos (by omega), if_pos hs, if_pos h0, if_pos (by omega), Option.bind_some, w64 (by omega) (by omega), if_pos hs, if_pos (by omega), if_pos (by omega), Option.bind_some, if_pos (by omega), if_pos (by have := cnt_mono l (show at_ ≤ at_ + many by omega); omega), if_pos (by have := cnt_le l (at_ + many); omega), Option.bind_some]
  simp only [Int.toNat_natCast]
  rw [mid_cnt hs (by omega)]
  have hsf := srt_filter (fun c => decide (at_ ≤ c.f0) && decide (c.f0 < at_ + many)) hs
  have hfl : (l.filter (fun c => decide (at_ ≤ c.f0) && decide (c.f0 < at_ + many))).length ≤ l.length := List.length_filter_le ..
  have hmem : ∀ c ∈ l.filter (fun c => decide (at_ ≤ c.f0) && decide (c.f0 < at_ + many)), at_ ≤ c.f0 ∧ c.f0 < at_ + many ∧ c.f0 < 1099511627776 := fun c hc => by
    have h2 := (List.mem_filter.1 hc).2
    simp at h2
    exact ⟨h2.1, h2.2, by omega⟩
  have := some_l0 at_ (l.filter (fun c => decide (at_ ≤ c.f0) && decide (c.f0 < at_ + many))) (by omega) h0 (l.filter (fun c => decide (at_ ≤ c.f0) && decide (c.f0 < at_ + many))).length k 0 (List.replicate many 0) (by omega) (by omega) (by omega) (by simp; omega) (by simpa using hmem)
  simp only [Int.natCast_zero, List.drop_zero] at this
  rw [this]
  congr 1
  apply List.ext_getElem
  · rw [layS_length]; simp [byts]
  · intro i hi1 hi2
    have hi : i < many := by rw [layS_length] at hi1; simpa using hi1
    have hg := layS_get at_ (l.filter (fun c => decide (at_ ≤ c.f0) && decide (c.f0 < at_ + many))) (List.replicate many 0) i hsf (fun c hc => (hmem c hc).1) (by simpa using hi)
    rw [List.getD_eq_getElem?_getD, List.getElem?_eq_getElem hi1, Option.getD_some] at hg
    rw [hg]
    simp only [byts, List.getElem_map, List.getElem_range]
    have hlk := lk_filter (fun a => decide (at_ ≤ a) && decide (a < at_ + many)) (at_ + i) l
    rw [if_pos (by simp; omega)] at hlk
    by_cases hex : ∃ c ∈ l.filter (fun c => decide (at_ ≤ c.f0) && decide (c.f0 < at_ + many)), c.f0 = at_ + i
    · rw [if_pos hex, ← hlk]
    · rw [if_neg hex, ← hlk, lk_none (fun c hc he => hex ⟨c, hc, he⟩)]
      simp [List.getD, hi]
/-- cells of bytes -/
def midC : Int → List Int → List S40
  | _, [] => []
  | a, c :: b => if c = 0 then midC (a + 1) b else ⟨a, c⟩ :: midC (a + 1) b
def wth (l : List S40) (at_ : Int) (b : List Int) : List S40 := l.filter (fun c => decide (c.f0 < at_)) ++ (midC at_ b ++ l.filter (fun c => decide (at_ + b.length ≤ c.f0)))
theorem midC_len : ∀ (b : List Int) (a : Int), (midC a b).length ≤ b.length := by
  intro b
  induction b with
  | nil => intro a; simp [midC]
  | cons c b ih =>
    intro a
    simp only [midC]
    split
    · have := ih (a + 1); simp; omega
    · have := ih (a + 1); simp; omega
theorem rdL3 (ls : List (List S40)) (i : Nat) : rd_L3 ls (i : Int) = ls.getD i [] := rfl
theorem concat3_f (k : Nat) (a b c : List S40) (ha : a.length ≤ 1099511627776) (hb : b.length ≤ 1099511627776) (hc : c.length ≤ 1099511627776) (hk : 8 < k) : api_Cell_51.f k [a, b, c] = some (a ++ (b ++ c)) := by
  obtain ⟨k, rfl⟩ : ∃ q, k = q + 8 := ⟨k - 8, by omega⟩
  have r0 : rd_L3 [a, b, c] 0 = a := rfl
  have r1 : rd_L3 [a, b, c] 1 = b := rfl
  have r2 : rd_L3 [a, b, c] 2 = c := rfl
  have e0 : wrap64 (0 + (a.length : Int)) = (a.length : Int) := by rw [w64 (by omega) (by omega)]; omega
  have e1 : wrap64 ((a.length : Int) + (b.length : Int)) = (a.length : Int) + (b.length : Int) := w64 (by omega) (by omega)
  have e2 : wrap64 ((a.length : Int) + (b.length : Int) + (c.length : Int)) = (a.length : Int) + (b.length : Int) + (c.length : Int) := w64 (by omega) (by omega)
  have i0 : wrap64 (0 + 1) = 1 := w64 (by omega) (by omega)
  have i1 : wrap64 (1 + 1) = 2 := w64 (by omega) (by omega)
  have i2 : wrap64 (2 + 1) = 3 := w64 (by omega) (by omega)
  have l3 : (([a, b, c] : List (List S40)).length : Int) = 3 := rfl
  have s : api_Cell_61.f [] ((a.length : Int) + (b.length : Int) + (c.length : Int)) = some [] := by
    unfold api_Cell_61.f; rw [List.length_nil, if_pos rfl, if_pos (by omega), if_pos (by omega)]
  unfold api_Cell_51.f
  rw [l3]
  simp only [api_Cell_51.l0, l3]
  rw [if_pos (by omega), if_pos (by omega), if_pos (by omega), r0, e0, if_neg (by omega), i0, if_pos (by omega), if_pos (by omega), if_pos (by omega), r1, e1, if_neg (by omega), i1, if_pos (by omega), if_pos (by omega), if_pos (by omega), r2, e2, if_neg (by omega), i2, if_neg (by omega), s, Option.bind_some]
  simp only [api_Cell_51.l1, l3]
  rw [if_pos (by omega), if_pos (by omega), if_pos (by omega), r0, if_pos (by simp; omega), i0, if_pos (by omega), if_pos (by omega), if_pos (by omega), r1, if_pos (by simp; omega), i1, if_pos (by omega), if_pos (by omega), if_pos (by omega), r2, if_pos (by simp; omega), i2, if_neg (by omega)]
  simp
theorem with_l0 (h : Bool) (p m : Int) (l : List S40) (at_ : Int) (b : List Int) (hs : srtB 0 l = true) (h0 : 0 ≤ at_) (h1 : at_ + b.length < 1099511627776) : ∀ (d k i : Nat) (x : List S40), i ≤ b.length → b.length - i = d → d + 9 < k → x.length ≤ i →
    mem_with.l0 k at_ b x b (b.length : Int) (i : Int) h p m l = some (h, p, m, l.filter (fun c => decide (c.f0 < at_)) ++ ((x ++ midC (at_ + i) (b.drop i)) ++ l.filter (fun c => decide (at_ + b.length ≤ c.f0)))) := by
  have hlen := srtB_len hs (by omega)
  intro d
  induction d with
  | zero =>
    intro k i x h2 h3 hk hx
    obtain ⟨k, rfl⟩ : ∃ q, k = q + 1 := ⟨k - 1, by omega⟩
    obtain rfl : i = b.length := by omega
    simp only [mem_with.l0]
    unfold mem_place.f
    rw [if_neg (by omega), if_pos hs, if_pos h0, if_pos (by omega), Option.bind_some, if_pos (by omega), if_pos (by have := cnt_le l at_; omega), w64 (by omega) (by omega), if_pos hs, if_pos (by omega), if_pos h1, Option.bind_some, if_pos (by omega), if_pos (by have := cnt_le l (at_ + b.length); omega)]
    simp only [Int.toNat_natCast]
    rw [take_cnt at_ hs, drop_cnt (at_ + b.length) hs, concat3_f k _ _ _ (by have : (l.filter (fun c => decide (c.f0 < at_))).length ≤ l.length := List.length_filter_le ..; omega) (by omega) (by have : (l.filter (fun c => decide (at_ + (b.length : Int) ≤ c.f0))).length ≤ l.length := List.length_filter_le ..; omega) (by omega), Option.bind_some, List.drop_length]
    simp [midC]
  | succ d ih =>
    intro k i x h2 h3 hk hx
    obtain ⟨k, rfl⟩ : ∃ q, k = q + 1 := ⟨k - 1, by omega⟩
    have hi : i < b.length := by omega
    have hd : b.drop i = rd b (i : Int) :: b.drop (i + 1) := by
      rw [List.drop_eq_getElem_cons hi]; congr 1; unfold rd; simp [List.getD, hi]
    simp only [mem_with.l0]
    have e1 : wrap64 ((i : Int) + 1) = ((i + 1 : Nat) : Int) := by rw [w64 (by omega) (by omega)]; rfl
    rw [if_pos (by omega), if_pos (by omega), if_pos (by omega), e1, hd, show wrap64 (at_ + (i : Int)) = at_ + (i : Int) from w64 (by omega) (by omega)]
    generalize rd b (i : Int) = c
    simp only [midC]
    have e2 : at_ + (i : Int) + 1 = at_ + ((i + 1 : Nat) : Int) := by omega
    by_cases hc : c = 0
    · rw [if_pos hc, if_pos hc, ih k (i + 1) x (by omega) (by omega) (by omega) (by omega), e2]
    · rw [if_neg hc, if_neg hc, if_pos (by omega), ih k (i + 1) _ (by omega) (by omega) (by omega) (by simp; omega), e2]
      simp
theorem with_f (k : Nat) (h : Bool) (p m : Int) (l : List S40) (at_ : Int) (b : List Int) (hs : srtB 0 l = true) (h0 : 0 ≤ at_) (h1 : at_ + b.length < 1099511627776) (hk : b.length + 9 < k) :
    mem_with.f k h p m l at_ b = some (h, p, m, wth l at_ b) := by
  have := with_l0 h p m l at_ b hs h0 h1 b.length k 0 [] (by omega) (by omega) (by omega) (by simp)
  unfold mem_with.f
  simp only [Int.natCast_zero, List.drop_zero, Int.add_zero, List.nil_append] at this
  exact this
theorem mem_midC : ∀ (b : List Int) (a : Int) (c : S40), c ∈ midC a b → a ≤ c.f0 ∧ c.f0 < a + b.length ∧ c.f1 ≠ 0 := by
  intro b
  induction b with
  | nil => intro a c hc; simp [midC] at hc
  | cons x b ih =>
    intro a c hc
    simp only [midC] at hc
    split at hc
    · have := ih _ _ hc; simp; omega
    · rcases List.mem_cons.1 hc with rfl | hc
      · simp; omega
      · have := ih _ _ hc; simp; omega
theorem srt_midC : ∀ (b : List Int) (a : Int), a + b.length < 1099511627776 → srtB a (midC a b) = true := by
  intro b
  induction b with
  | nil => intro a _; rfl
  | cons x b ih =>
    intro a h
    simp only [List.length_cons] at h
    have hi := ih (a + 1) (by omega)
    simp only [midC]
    split
    · exact srt_mono hi (by omega)
    · simp only [srtB, Bool.and_eq_true, decide_eq_true_eq]; exact ⟨by omega, by omega, hi⟩
theorem lk_midC : ∀ (b : List Int) (a x : Int), lk (midC a b) x = if a ≤ x ∧ x < a + b.length then b.getD (x - a).toNat 0 else 0 := by
  intro b
  induction b with
  | nil => intro a x; simp [midC, lk]; 
  | cons c b ih =>
    intro a x
    simp only [midC]
    have step : ∀ v : Int, (v = if a + 1 ≤ x ∧ x < a + 1 + b.length then b.getD (x - (a + 1)).toNat 0 else 0) → x ≠ a → v = if a ≤ x ∧ x < a + (c :: b).length then (c :: b).getD (x - a).toNat 0 else 0 := by
      intro v hv hx
      rw [hv]
      by_cases hc : a + 1 ≤ x ∧ x < a + 1 + b.length
      · rw [if_pos hc, if_pos (by simp; omega)]
        have : (x - a).toNat = (x - (a + 1)).toNat + 1 := by omega
        rw [this]; simp [List.getD]
      · rw [if_neg hc, if_neg (by simp; omega)]
    by_cases hc : c = 0
    · rw [if_pos hc]
      by_cases hx : x = a
      · rw [lk_none (fun y hy => by have := mem_midC b (a + 1) y hy; omega), if_pos (by simp; omega), hx]; simp [hc]
      · exact step _ (ih (a + 1) x) hx
    · rw [if_neg hc]
      simp only [lk]
      by_cases hx : a = x
      · rw [if_pos hx, if_pos (by simp; omega), ← hx]; simp
      · rw [if_neg hx]; exact step _ (ih (a + 1) x) (fun e => hx e.symm)
theorem lk_wth (l : List S40) (at_ : Int) (b : List Int) (x : Int) : lk (wth l at_ b) x = if at_ ≤ x ∧ x < at_ + b.length then b.getD (x - at_).toNat 0 else lk l x := by
  unfold wth
  by_cases h1 : x < at_
  · rw [lk_append_l (fun c hc => by
      rcases List.mem_append.1 hc with hc | hc
      · have := mem_midC b at_ c hc; omega
      · have := (List.mem_filter.1 hc).2; simp at this; omega), lk_filter (fun a => decide (a < at_)) x l, if_pos (by simpa using h1), if_neg (by omega)]
  · rw [lk_append (fun c hc => by have := (List.mem_filter.1 hc).2; simp at this; omega)]
    by_cases h2 : x < at_ + b.length
    · rw [lk_append_l (fun c hc => by have := (List.mem_filter.1 hc).2; simp at this; omega), lk_midC, if_pos ⟨by omega, h2⟩, if_pos ⟨by omega, h2⟩]
    · rw [lk_append (fun c hc => by have := mem_midC b at_ c hc; omega), lk_filter (fun a => decide (at_ + (b.length : Int) ≤ a)) x l, if_pos (by simp; omega), if_neg (by omega)]
theorem srt_wth {lo : Int} {l : List S40} {at_ : Int} {b : List Int} (hs : srtB lo l = true) (h0 : lo ≤ at_) (h1 : at_ + b.length < 1099511627776) : srtB lo (wth l at_ b) = true := by
  unfold wth
  refine srt_append (srt_filter _ hs) (srt_append (srt_mono (srt_midC b at_ h1) h0) (srt_filter _ hs) (fun x hx y hy => ?_)) (fun x hx y hy => ?_)
  · have h2 := mem_midC b at_ x hx
    have h3 := (List.mem_filter.1 hy).2; simp at h3; omega
  · have h2 := (List.mem_filter.1 hx).2
    simp at h2
    rcases List.mem_append.1 hy with hy | hy
    · have h3 := mem_midC b at_ y hy; omega
    · have h3 := (List.mem_filter.1 hy).2; simp at h3; omega
theorem chk_wth {p : Int} (hp0 : 0 ≤ p) (hp : p ≤ 65536) {l : List S40} {at_ : Int} {b : List Int} (hc : chk p (-1) l = true) (h0 : 0 ≤ at_) (h1 : at_ + b.length ≤ p * 65536) : chk p (-1) (wth l at_ b) = true := by
  have hs := chk_srt hp hc
  refine chk_of (srt_wth hs (by omega) (by omega)) (fun c hm => ?_)
  have hn := chk_nz hc
  unfold wth at hm
  rcases List.mem_append.1 hm with hm | hm
  · have := hn c (List.mem_filter.1 hm).1; exact ⟨this.1, this.2.2⟩
  · rcases List.mem_append.1 hm with hm | hm
    · have := mem_midC b at_ c hm; exact ⟨this.2.2, by omega⟩
    · have := hn c (List.mem_filter.1 hm).1; exact ⟨this.1, this.2.2⟩
end Go.Proofs.Ytidojlacnamabaa
