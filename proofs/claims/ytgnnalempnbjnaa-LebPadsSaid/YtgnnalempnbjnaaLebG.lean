/-
  leb.GetU and leb.GetS: their contracts in the printed texts' words. No statement is proved here.
-/
import Derived.Test.YtgnnalempnbjnaaLebB
namespace Go.Proofs.Ytgnnalempnbjnaa
open Go.RowKit Go.Proofs.YtgnnalempnbjnaaW.PrintWords
def lebGetUF (l0 : List Int) (a1 : Int) : Option (Int × Int × Int) := (getF l0 a1 32 lastU).bind fun t => some (wrap64 t.1, t.2.1, t.2.2.2)
set_option maxHeartbeats 1000000 in
theorem lebGetU_calls (A0 : Option Addr) (c0 : Nat) (l0 : List Int) (a1 : Int) (r1 : Int) (r2 : Int) (r3 : Int) (w : World) (hr0 : Kd.C (Kd.int .u8) w A0 l0.length l0) (h : lebGetUF l0 a1 = some (r1, r2, r3)) :
    Calls Try.prog 13 #[.slice A0 l0.length c0, .int .i64 a1] w fun e w' => e = .returned (.tuple #[.int .i64 r1, .int .i64 r2, .int .i64 r3]) ∧ Below w.heap.size w w' := by
  unfold lebGetUF at h
  obtain ⟨⟨t1, t2, t3, t4⟩, h1, h2⟩ := Option.bind_eq_some_iff.mp h
  clear h
  simp only [Option.some.injEq, Prod.mk.injEq] at h2
  obtain ⟨rfl, rfl, rfl⟩ := h2
  have H1 := Aside0.mk h1
  clear h1
  go_enter Try.func13, Try.ntmps13
  go_wp2_with (go_at_call 22; refine (getU_walk A0 c0 l0 a1 t1 t2 t3 t4 w hr0 H1.out).mono ?_; rintro e w' ⟨rfl, rfl⟩)
  go_ret3
  exact ⟨by rfl, Below.refl _ _⟩
theorem getL_size (b : List Int) (bits : Int) (last : Int → Bool) (hb : bits ≤ 64) : ∀ k n a sz r1 r2 r3 r4, 0 ≤ sz → sz ≤ 70 → getL b bits last k n a sz = some (r1, r2, r3, r4) → 0 ≤ r3 ∧ r3 ≤ 71 := by
  intro k
  induction k with
  | zero => intro n a sz r1 r2 r3 r4 _ _ h; simp [getL] at h
  | succ k ih =>
    intro n a sz r1 r2 r3 r4 h0 h1 h
    simp only [getL] at h
    repeat' split at h
    all_goals first
      | (simp only [Option.some.injEq, Prod.mk.injEq] at h; omega)
      | cases h
      | exact ih _ _ _ _ _ _ _ (by omega) (by omega) h
theorem getF_size {b : List Int} {a bits : Int} {last : Int → Bool} (hb : bits ≤ 64) {r1 r2 r3 r4 : Int} (h : getF b a bits last = some (r1, r2, r3, r4)) : 0 ≤ r3 ∧ r3 ≤ 71 := by
  unfold getF at h
  split at h
  · simp only [Option.some.injEq, Prod.mk.injEq] at h; omega
  · split at h
    · simp only [Option.some.injEq, Prod.mk.injEq] at h; omega
    · exact getL_size b bits last hb 11 0 a 0 _ _ _ _ (by omega) (by omega) h
def finS (t : Int × Int × Int × Int) : Option (Int × Int × Int) :=
  if t.2.2.2 ≠ 0 then some (0, 0, t.2.2.2) else if t.2.2.1 < 64 then some (wrap64 (IntKind.u64.wrap (t.1 * 2 ^ (64 - t.2.2.1).toNat)) / 2 ^ (64 - t.2.2.1).toNat, t.2.1, 0) else some (wrap64 t.1, t.2.1, 0)
def lebGetSF (l0 : List Int) (a bits : Int) : Option (Int × Int × Int) :=
  if bits = 32 then (getF l0 a 32 (lastS 8)).bind finS else if bits = 64 then (getF l0 a 64 (lastS 1)).bind finS else some (0, 0, 2)
set_option maxHeartbeats 2000000 in
theorem lebGetS_calls (A0 : Option Addr) (c0 : Nat) (l0 : List Int) (a1 : Int) (a2 : Int) (r1 : Int) (r2 : Int) (r3 : Int) (w : World) (hr0 : Kd.C (Kd.int .u8) w A0 l0.length l0) (h : lebGetSF l0 a1 a2 = some (r1, r2, r3)) :
    Calls Try.prog 15 #[.slice A0 l0.length c0, .int .i64 a1, .int .i64 a2] w fun e w' => e = .returned (.tuple #[.int .i64 r1, .int .i64 r2, .int .i64 r3]) ∧ Below w.heap.size w w' := by
  unfold lebGetSF at h
  have hC := Aside0.mk (Kd.C_below hr0 ((Below.refl _ w).alloc (Nat.le_refl _) (.cells #[.int .u8 8] 5)))
  have hC1 := Aside0.mk (Kd.C_below hr0 ((Below.refl _ w).alloc (Nat.le_refl _) (.cells #[.int .u8 1] 5)))
  have hcell : (w.alloc (.cells #[Value.int .u8 8] 5)).cell? ⟨w.heap.size, 0, none⟩ = some (.int .u8 8) := by simp
  have hcell1 : (w.alloc (.cells #[Value.int .u8 1] 5)).cell? ⟨w.heap.size, 0, none⟩ = some (.int .u8 1) := by simp
  clear hr0
  by_cases b32 : a2 = 32
  · subst b32
    rw [if_pos rfl] at h
    obtain ⟨⟨t1, t2, t3, t4⟩, h1, h2⟩ := Option.bind_eq_some_iff.mp h
    clear h
    have H1 := Aside0.mk h1
    have H2 := Aside0.mk h2
    obtain ⟨hz0, hz1⟩ := getF_size (by omega) h1
    clear h1 h2
    go_enter Try.func15, Try.ntmps15
    go_wp2_with (go_at_call 22; refine (getS32_walk A0 c0 l0 a1 t1 t2 t3 t4 8 w.heap.size _ hC.out hcell (by omega) (by omega) H1.out).mono ?_; rintro e w' ⟨rfl, rfl⟩)
    · go_ret3
      refine ⟨?_, (Below.refl _ _).alloc (Nat.le_refl _) _⟩
      have h2 := H2.out
      unfold finS at h2
      rw [if_pos (bne_iff_ne.mp (by assumption))] at h2
      simp only [Option.some.injEq, Prod.mk.injEq] at h2
      obtain ⟨rfl, rfl, rfl⟩ := h2
      rfl
    · go_ret3
      refine ⟨?_, (Below.refl _ _).alloc (Nat.le_refl _) _⟩
      have h2 := H2.out
      unfold finS at h2
      rw [if_neg (fun hh => by have := bne_iff_ne.mpr hh; simp_all), if_pos (by assumption)] at h2
      simp only [Option.some.injEq, Prod.mk.injEq] at h2
      obtain ⟨rfl, rfl, rfl⟩ := h2
      rfl
    · have hge : 64 ≤ t3 := by assumption
      go_ret3
      refine ⟨?_, (Below.refl _ _).alloc (Nat.le_refl _) _⟩
      have h2 := H2.out
      unfold finS at h2
      rw [if_neg (fun hh => by have := bne_iff_ne.mpr hh; simp_all), if_neg (fun hh => absurd hh (by simpa using hge))] at h2
      simp only [Option.some.injEq, Prod.mk.injEq] at h2
      obtain ⟨rfl, rfl, rfl⟩ := h2
      rfl
  · rw [if_neg b32] at h
    have b32b : (a2 == 32) = false := beq_eq_false_iff_ne.mpr b32
    by_cases b64 : a2 = 64
    · subst b64
      rw [if_pos rfl] at h
      obtain ⟨⟨t1, t2, t3, t4⟩, h1, h2⟩ := Option.bind_eq_some_iff.mp h
      clear h
      have H1 := Aside0.mk h1
      have H2 := Aside0.mk h2
      obtain ⟨hz0, hz1⟩ := getF_size (by omega) h1
      clear h1 h2
      go_enter Try.func15, Try.ntmps15
      go_wp2_with (go_at_call 22; refine (getS64_walk A0 c0 l0 a1 t1 t2 t3 t4 1 w.heap.size _ hC1.out hcell1 (by omega) (by omega) H1.out).mono ?_; rintro e w' ⟨rfl, rfl⟩)
      · go_ret3
        refine ⟨?_, (Below.refl _ _).alloc (Nat.le_refl _) _⟩
        have h2 := H2.out
        unfold finS at h2
        rw [if_pos (bne_iff_ne.mp (by assumption))] at h2
        simp only [Option.some.injEq, Prod.mk.injEq] at h2
        obtain ⟨rfl, rfl, rfl⟩ := h2
        rfl
      · go_ret3
        refine ⟨?_, (Below.refl _ _).alloc (Nat.le_refl _) _⟩
        have h2 := H2.out
        unfold finS at h2
        rw [if_neg (fun hh => by have := bne_iff_ne.mpr hh; simp_all), if_pos (by assumption)] at h2
        simp only [Option.some.injEq, Prod.mk.injEq] at h2
        obtain ⟨rfl, rfl, rfl⟩ := h2
        rfl
      · have hge : 64 ≤ t3 := by assumption
        go_ret3
        refine ⟨?_, (Below.refl _ _).alloc (Nat.le_refl _) _⟩
        have h2 := H2.out
        unfold finS at h2
        rw [if_neg (fun hh => by have := bne_iff_ne.mpr hh; simp_all), if_neg (fun hh => absurd hh (by simpa using hge))] at h2
        simp only [Option.some.injEq, Prod.mk.injEq] at h2
        obtain ⟨rfl, rfl, rfl⟩ := h2
        rfl
    · rw [if_neg b64] at h
      have b64b : (a2 == 64) = false := beq_eq_false_iff_ne.mpr b64
      simp only [Option.some.injEq, Prod.mk.injEq] at h
      obtain ⟨rfl, rfl, rfl⟩ := h
      go_enter Try.func15, Try.ntmps15
      go_wp2
      go_ret3
      exact ⟨rfl, (Below.refl _ _).alloc (Nat.le_refl _) _⟩
end Go.Proofs.Ytgnnalempnbjnaa
