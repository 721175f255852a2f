/-
  The walks of package leb's get, GetU and GetS. No statement is proved here.
-/
import Derived.Test.YtgnnalempnbjnaaProg
import Derived.Test.YtgnnalempnbjnaaWWords
import Derived.WalkKit
import Derived.WalkSpells
import Derived.WalkLawsBesides
import Derived.Deep.LoopGhost
import Derived.Laws.BitsAllLaws
import Derived.Test.YtgnnalempnbjnaaLebP
namespace Go.Proofs.Ytgnnalempnbjnaa
open Go.RowKit Go.Proofs.YtgnnalempnbjnaaW.PrintWords
theorem lastU_any (c : Int) (w : World) : Calls Try.prog 23 #[.int .u8 c] w fun e w' => e = .returned (.bool (lastU c)) ∧ w' = w := by
  go_enter Try.func23, Try.ntmps23
  go_wp2
  go_ret
  exact ⟨rfl, rfl⟩
theorem lastS_any (c half : Int) (B : Nat) (w : World) (hc : w.cell? ⟨B, 0, none⟩ = some (.int .u8 half)) (h0 : 0 ≤ half) (h1 : half ≤ 8) : Calls Try.prog 25 #[.int .u8 c, .pointer (some ⟨B, 0, none⟩)] w fun e w' => e = .returned (.bool (lastS half c)) ∧ w' = w := by
  unfold lastS
  by_cases a1 : c < half
  · go_enter Try.func25, Try.ntmps25
    go_wp2
    go_ret
    exact ⟨by simp [a1], rfl⟩
  · by_cases a2 : c < 128
    · go_enter Try.func25, Try.ntmps25
      go_wp2
      go_ret
      exact ⟨by simp; omega, rfl⟩
    · go_enter Try.func25, Try.ntmps25
      go_wp2
      go_ret
      exact ⟨by simp; omega, rfl⟩

set_option maxHeartbeats 4000000 in
theorem getU_walk (A0 : Option Addr) (c0 : Nat) (l0 : List Int) (a : Int) (r1 r2 r3 r4 : Int) (w : World) (hr0 : Kd.C (Kd.int .u8) w A0 l0.length l0) (h : getF l0 a 32 lastU = some (r1, r2, r3, r4)) :
    Calls Try.prog 22 #[.slice A0 l0.length c0, .int .i64 a, .int .i64 32, .func (.func 23) #[] #[]] w fun e w' => e = .returned (.tuple #[.int .u64 r1, .int .i64 r2, .int .i64 r3, .int .i64 r4]) ∧ w' = w := by
  have HR0 := Aside0.mk hr0
  have hlen := hr0.2.1
  clear hr0
  unfold getF at h
  by_cases c1 : a < 0
  · rw [if_pos c1] at h
    simp only [Option.some.injEq, Prod.mk.injEq] at h
    obtain ⟨rfl, rfl, rfl, rfl⟩ := h
    go_enter Try.func22, Try.ntmps22
    go_wp2
    refine bodyPost_ret (v := .tuple #[.int .u64 0, .int .i64 0, .int .i64 0, .int .i64 2]) (by simp [results, Try.results22]) rfl ⟨rfl, rfl⟩
  · rw [if_neg c1] at h
    by_cases c2 : (l0.length : Int) < a
    · rw [if_pos c2] at h
      simp only [Option.some.injEq, Prod.mk.injEq] at h
      obtain ⟨rfl, rfl, rfl, rfl⟩ := h
      go_enter Try.func22, Try.ntmps22
      go_wp2
      refine bodyPost_ret (v := .tuple #[.int .u64 0, .int .i64 0, .int .i64 0, .int .i64 2]) (by simp [results, Try.results22]) rfl ⟨rfl, rfl⟩
    · rw [if_neg c2] at h
      have H' := Aside0.mk h
      clear h
      go_enter Try.func22, Try.ntmps22
      go_wp2
      go_loopg [1, 8, 10] 11 (fun kq v1 v8 v10 w' => ∃ (n at_ size : Int), v1 = .int .i64 at_ ∧ v8 = .int .u64 n ∧ v10 = .int .i64 size ∧ Aside0 (getL l0 32 lastU kq n at_ size = some (r1, r2, r3, r4)) ∧ Aside0 (kq ≤ 11) ∧ 0 ≤ size ∧ size ≤ 70 ∧ at_ ≤ l0.length ∧ w' = w)
      case atStart => exact ⟨0, a, 0, rfl, rfl, rfl, H', ⟨Nat.le_refl _⟩, by omega, by omega, by omega, rfl⟩
      case round =>
        clear H'
        obtain ⟨n, at_, size, rfl, rfl, rfl, HA, HK1, hs0, hs1, hat, rfl⟩ := hrel
        cases gk with
        | zero => exact absurd HA.out (by simp [getL])
        | succ k1 =>
          have H := HA.out
          clear HA
          simp only [getL] at H
          by_cases c3 : size < 32
          · rw [if_pos c3] at H
            by_cases c4 : at_ = (l0.length : Int)
            · rw [if_pos c4] at H
              simp only [Option.some.injEq, Prod.mk.injEq] at H
              obtain ⟨rfl, rfl, rfl, rfl⟩ := H
              have c4b : (at_ == (l0.length : Int)) = true := beq_iff_eq.mpr c4
              clear c4
              go_wp2
              refine bodyPost_ret (v := .tuple #[.int .u64 0, .int .i64 0, .int .i64 0, .int .i64 5]) (by simp [results, Try.results22]) rfl ⟨rfl, rfl⟩
            · rw [if_neg c4] at H
              have c4b : (at_ == (l0.length : Int)) = false := beq_eq_false_iff_ne.mpr c4
              have c4l : at_ < (l0.length : Int) := by omega
              clear c4
              by_cases c5 : 0 ≤ at_
              · rw [if_pos c5, if_pos c4l] at H
                obtain ⟨ad, e1, hx⟩ := Kd.at_int HR0.out at_ c5 c4l
                cases e1
                by_cases c6 : 32 ≤ size + 7
                · rw [if_pos c6] at H
                  by_cases cl : lastU (rd l0 at_) = true
                  · rw [if_pos cl] at H
                    by_cases c7 : rd l0 at_ < 128
                    · rw [if_pos c7] at H
                      simp only [Option.some.injEq, Prod.mk.injEq] at H
                      obtain ⟨rfl, rfl, rfl, rfl⟩ := H
                      go_wp2_with (go_at_call 23; refine (lastU_any _ _).mono ?_; rintro e w' ⟨rfl, rfl⟩)
                      refine bodyPost_ret (v := .tuple #[.int .u64 _, .int .i64 (at_ + 1), .int .i64 (size + 7), .int .i64 0]) (by simp [results, Try.results22]) rfl ⟨rfl, rfl⟩
                    · rw [if_neg c7] at H
                      have H' := Aside0.mk H
                      clear H
                      go_wp2_with (go_at_call 23; refine (lastU_any _ _).mono ?_; rintro e w' ⟨rfl, rfl⟩)
                      go_roundg k1
                      case measure => have := HK1.out; omega
                      case rel => exact ⟨_, at_ + 1, size + 7, rfl, rfl, rfl, H', ⟨by have := HK1.out; omega⟩, by omega, by omega, by omega, rfl⟩
                  · rw [if_neg cl] at H
                    simp only [Option.some.injEq, Prod.mk.injEq] at H
                    obtain ⟨rfl, rfl, rfl, rfl⟩ := H
                    replace cl := Bool.eq_false_iff.mpr cl
                    go_wp2_with (go_at_call 23; refine (lastU_any _ _).mono ?_; rintro e w' ⟨rfl, rfl⟩)
                    refine bodyPost_ret (v := .tuple #[.int .u64 0, .int .i64 0, .int .i64 0, .int .i64 8]) (by simp [results, Try.results22]) rfl ⟨rfl, rfl⟩
                · rw [if_neg c6] at H
                  by_cases c7 : rd l0 at_ < 128
                  · rw [if_pos c7] at H
                    simp only [Option.some.injEq, Prod.mk.injEq] at H
                    obtain ⟨rfl, rfl, rfl, rfl⟩ := H
                    go_wp2
                    refine bodyPost_ret (v := .tuple #[.int .u64 _, .int .i64 (at_ + 1), .int .i64 (size + 7), .int .i64 0]) (by simp [results, Try.results22]) rfl ⟨rfl, rfl⟩
                  · rw [if_neg c7] at H
                    have H' := Aside0.mk H
                    clear H
                    go_wp2
                    go_roundg k1
                    case measure => have := HK1.out; omega
                    case rel => exact ⟨_, at_ + 1, size + 7, rfl, rfl, rfl, H', ⟨by have := HK1.out; omega⟩, by omega, by omega, by omega, rfl⟩
              · rw [if_neg c5] at H; cases H
          · rw [if_neg c3] at H
            simp only [Option.some.injEq, Prod.mk.injEq] at H
            obtain ⟨rfl, rfl, rfl, rfl⟩ := H
            go_wp2
            refine bodyPost_ret (v := .tuple #[.int .u64 _, .int .i64 _, .int .i64 _, .int .i64 0]) (by simp [results, Try.results22]) rfl ⟨rfl, rfl⟩

set_option maxHeartbeats 4000000 in
theorem getS32_walk (A0 : Option Addr) (c0 : Nat) (l0 : List Int) (a : Int) (r1 r2 r3 r4 : Int) (half : Int) (B : Nat) (w : World) (hr0 : Kd.C (Kd.int .u8) w A0 l0.length l0) (hcB : w.cell? ⟨B, 0, none⟩ = some (.int .u8 half)) (hh0 : 0 ≤ half) (hh1 : half ≤ 8) (h : getF l0 a 32 (lastS half) = some (r1, r2, r3, r4)) :
    Calls Try.prog 22 #[.slice A0 l0.length c0, .int .i64 a, .int .i64 32, .func (.func 25) #[] #[.pointer (some ⟨B, 0, none⟩)]] w fun e w' => e = .returned (.tuple #[.int .u64 r1, .int .i64 r2, .int .i64 r3, .int .i64 r4]) ∧ w' = w := by
  have HR0 := Aside0.mk hr0
  have hlen := hr0.2.1
  clear hr0
  unfold getF at h
  by_cases c1 : a < 0
  · rw [if_pos c1] at h
    simp only [Option.some.injEq, Prod.mk.injEq] at h
    obtain ⟨rfl, rfl, rfl, rfl⟩ := h
    go_enter Try.func22, Try.ntmps22
    go_wp2
    refine bodyPost_ret (v := .tuple #[.int .u64 0, .int .i64 0, .int .i64 0, .int .i64 2]) (by simp [results, Try.results22]) rfl ⟨rfl, rfl⟩
  · rw [if_neg c1] at h
    by_cases c2 : (l0.length : Int) < a
    · rw [if_pos c2] at h
      simp only [Option.some.injEq, Prod.mk.injEq] at h
      obtain ⟨rfl, rfl, rfl, rfl⟩ := h
      go_enter Try.func22, Try.ntmps22
      go_wp2
      refine bodyPost_ret (v := .tuple #[.int .u64 0, .int .i64 0, .int .i64 0, .int .i64 2]) (by simp [results, Try.results22]) rfl ⟨rfl, rfl⟩
    · rw [if_neg c2] at h
      have H' := Aside0.mk h
      clear h
      go_enter Try.func22, Try.ntmps22
      go_wp2
      go_loopg [1, 8, 10] 11 (fun kq v1 v8 v10 w' => ∃ (n at_ size : Int), v1 = .int .i64 at_ ∧ v8 = .int .u64 n ∧ v10 = .int .i64 size ∧ Aside0 (getL l0 32 (lastS half) kq n at_ size = some (r1, r2, r3, r4)) ∧ Aside0 (kq ≤ 11) ∧ 0 ≤ size ∧ size ≤ 70 ∧ at_ ≤ l0.length ∧ w' = w)
      case atStart => exact ⟨0, a, 0, rfl, rfl, rfl, H', ⟨Nat.le_refl _⟩, by omega, by omega, by omega, rfl⟩
      case round =>
        clear H'
        obtain ⟨n, at_, size, rfl, rfl, rfl, HA, HK1, hs0, hs1, hat, rfl⟩ := hrel
        cases gk with
        | zero => exact absurd HA.out (by simp [getL])
        | succ k1 =>
          have H := HA.out
          clear HA
          simp only [getL] at H
          by_cases c3 : size < 32
          · rw [if_pos c3] at H
            by_cases c4 : at_ = (l0.length : Int)
            · rw [if_pos c4] at H
              simp only [Option.some.injEq, Prod.mk.injEq] at H
              obtain ⟨rfl, rfl, rfl, rfl⟩ := H
              have c4b : (at_ == (l0.length : Int)) = true := beq_iff_eq.mpr c4
              clear c4
              go_wp2
              refine bodyPost_ret (v := .tuple #[.int .u64 0, .int .i64 0, .int .i64 0, .int .i64 5]) (by simp [results, Try.results22]) rfl ⟨rfl, rfl⟩
            · rw [if_neg c4] at H
              have c4b : (at_ == (l0.length : Int)) = false := beq_eq_false_iff_ne.mpr c4
              have c4l : at_ < (l0.length : Int) := by omega
              clear c4
              by_cases c5 : 0 ≤ at_
              · rw [if_pos c5, if_pos c4l] at H
                obtain ⟨ad, e1, hx⟩ := Kd.at_int HR0.out at_ c5 c4l
                cases e1
                by_cases c6 : 32 ≤ size + 7
                · rw [if_pos c6] at H
                  by_cases cl : (lastS half) (rd l0 at_) = true
                  · rw [if_pos cl] at H
                    by_cases c7 : rd l0 at_ < 128
                    · rw [if_pos c7] at H
                      simp only [Option.some.injEq, Prod.mk.injEq] at H
                      obtain ⟨rfl, rfl, rfl, rfl⟩ := H
                      go_wp2_with (go_at_call 25; refine (lastS_any _ half B _ hcB hh0 hh1).mono ?_; rintro e w' ⟨rfl, rfl⟩)
                      refine bodyPost_ret (v := .tuple #[.int .u64 _, .int .i64 (at_ + 1), .int .i64 (size + 7), .int .i64 0]) (by simp [results, Try.results22]) rfl ⟨rfl, rfl⟩
                    · rw [if_neg c7] at H
                      have H' := Aside0.mk H
                      clear H
                      go_wp2_with (go_at_call 25; refine (lastS_any _ half B _ hcB hh0 hh1).mono ?_; rintro e w' ⟨rfl, rfl⟩)
                      go_roundg k1
                      case measure => have := HK1.out; omega
                      case rel => exact ⟨_, at_ + 1, size + 7, rfl, rfl, rfl, H', ⟨by have := HK1.out; omega⟩, by omega, by omega, by omega, rfl⟩
                  · rw [if_neg cl] at H
                    simp only [Option.some.injEq, Prod.mk.injEq] at H
                    obtain ⟨rfl, rfl, rfl, rfl⟩ := H
                    replace cl := Bool.eq_false_iff.mpr cl
                    go_wp2_with (go_at_call 25; refine (lastS_any _ half B _ hcB hh0 hh1).mono ?_; rintro e w' ⟨rfl, rfl⟩)
                    refine bodyPost_ret (v := .tuple #[.int .u64 0, .int .i64 0, .int .i64 0, .int .i64 8]) (by simp [results, Try.results22]) rfl ⟨rfl, rfl⟩
                · rw [if_neg c6] at H
                  by_cases c7 : rd l0 at_ < 128
                  · rw [if_pos c7] at H
                    simp only [Option.some.injEq, Prod.mk.injEq] at H
                    obtain ⟨rfl, rfl, rfl, rfl⟩ := H
                    go_wp2
                    refine bodyPost_ret (v := .tuple #[.int .u64 _, .int .i64 (at_ + 1), .int .i64 (size + 7), .int .i64 0]) (by simp [results, Try.results22]) rfl ⟨rfl, rfl⟩
                  · rw [if_neg c7] at H
                    have H' := Aside0.mk H
                    clear H
                    go_wp2
                    go_roundg k1
                    case measure => have := HK1.out; omega
                    case rel => exact ⟨_, at_ + 1, size + 7, rfl, rfl, rfl, H', ⟨by have := HK1.out; omega⟩, by omega, by omega, by omega, rfl⟩
              · rw [if_neg c5] at H; cases H
          · rw [if_neg c3] at H
            simp only [Option.some.injEq, Prod.mk.injEq] at H
            obtain ⟨rfl, rfl, rfl, rfl⟩ := H
            go_wp2
            refine bodyPost_ret (v := .tuple #[.int .u64 _, .int .i64 _, .int .i64 _, .int .i64 0]) (by simp [results, Try.results22]) rfl ⟨rfl, rfl⟩

set_option maxHeartbeats 4000000 in
theorem getS64_walk (A0 : Option Addr) (c0 : Nat) (l0 : List Int) (a : Int) (r1 r2 r3 r4 : Int) (half : Int) (B : Nat) (w : World) (hr0 : Kd.C (Kd.int .u8) w A0 l0.length l0) (hcB : w.cell? ⟨B, 0, none⟩ = some (.int .u8 half)) (hh0 : 0 ≤ half) (hh1 : half ≤ 8) (h : getF l0 a 64 (lastS half) = some (r1, r2, r3, r4)) :
    Calls Try.prog 22 #[.slice A0 l0.length c0, .int .i64 a, .int .i64 64, .func (.func 25) #[] #[.pointer (some ⟨B, 0, none⟩)]] w fun e w' => e = .returned (.tuple #[.int .u64 r1, .int .i64 r2, .int .i64 r3, .int .i64 r4]) ∧ w' = w := by
  have HR0 := Aside0.mk hr0
  have hlen := hr0.2.1
  clear hr0
  unfold getF at h
  by_cases c1 : a < 0
  · rw [if_pos c1] at h
    simp only [Option.some.injEq, Prod.mk.injEq] at h
    obtain ⟨rfl, rfl, rfl, rfl⟩ := h
    go_enter Try.func22, Try.ntmps22
    go_wp2
    refine bodyPost_ret (v := .tuple #[.int .u64 0, .int .i64 0, .int .i64 0, .int .i64 2]) (by simp [results, Try.results22]) rfl ⟨rfl, rfl⟩
  · rw [if_neg c1] at h
    by_cases c2 : (l0.length : Int) < a
    · rw [if_pos c2] at h
      simp only [Option.some.injEq, Prod.mk.injEq] at h
      obtain ⟨rfl, rfl, rfl, rfl⟩ := h
      go_enter Try.func22, Try.ntmps22
      go_wp2
      refine bodyPost_ret (v := .tuple #[.int .u64 0, .int .i64 0, .int .i64 0, .int .i64 2]) (by simp [results, Try.results22]) rfl ⟨rfl, rfl⟩
    · rw [if_neg c2] at h
      have H' := Aside0.mk h
      clear h
      go_enter Try.func22, Try.ntmps22
      go_wp2
      go_loopg [1, 8, 10] 11 (fun kq v1 v8 v10 w' => ∃ (n at_ size : Int), v1 = .int .i64 at_ ∧ v8 = .int .u64 n ∧ v10 = .int .i64 size ∧ Aside0 (getL l0 64 (lastS half) kq n at_ size = some (r1, r2, r3, r4)) ∧ Aside0 (kq ≤ 11) ∧ 0 ≤ size ∧ size ≤ 70 ∧ at_ ≤ l0.length ∧ w' = w)
      case atStart => exact ⟨0, a, 0, rfl, rfl, rfl, H', ⟨Nat.le_refl _⟩, by omega, by omega, by omega, rfl⟩
      case round =>
        clear H'
        obtain ⟨n, at_, size, rfl, rfl, rfl, HA, HK1, hs0, hs1, hat, rfl⟩ := hrel
        cases gk with
        | zero => exact absurd HA.out (by simp [getL])
        | succ k1 =>
          have H := HA.out
          clear HA
          simp only [getL] at H
          by_cases c3 : size < 64
          · rw [if_pos c3] at H
            by_cases c4 : at_ = (l0.length : Int)
            · rw [if_pos c4] at H
              simp only [Option.some.injEq, Prod.mk.injEq] at H
              obtain ⟨rfl, rfl, rfl, rfl⟩ := H
              have c4b : (at_ == (l0.length : Int)) = true := beq_iff_eq.mpr c4
              clear c4
              go_wp2
              refine bodyPost_ret (v := .tuple #[.int .u64 0, .int .i64 0, .int .i64 0, .int .i64 5]) (by simp [results, Try.results22]) rfl ⟨rfl, rfl⟩
            · rw [if_neg c4] at H
              have c4b : (at_ == (l0.length : Int)) = false := beq_eq_false_iff_ne.mpr c4
              have c4l : at_ < (l0.length : Int) := by omega
              clear c4
              by_cases c5 : 0 ≤ at_
              · rw [if_pos c5, if_pos c4l] at H
                obtain ⟨ad, e1, hx⟩ := Kd.at_int HR0.out at_ c5 c4l
                cases e1
                by_cases c6 : 64 ≤ size + 7
                · rw [if_pos c6] at H
                  by_cases cl : (lastS half) (rd l0 at_) = true
                  · rw [if_pos cl] at H
                    by_cases c7 : rd l0 at_ < 128
                    · rw [if_pos c7] at H
                      simp only [Option.some.injEq, Prod.mk.injEq] at H
                      obtain ⟨rfl, rfl, rfl, rfl⟩ := H
                      go_wp2_with (go_at_call 25; refine (lastS_any _ half B _ hcB hh0 hh1).mono ?_; rintro e w' ⟨rfl, rfl⟩)
                      refine bodyPost_ret (v := .tuple #[.int .u64 _, .int .i64 (at_ + 1), .int .i64 (size + 7), .int .i64 0]) (by simp [results, Try.results22]) rfl ⟨rfl, rfl⟩
                    · rw [if_neg c7] at H
                      have H' := Aside0.mk H
                      clear H
                      go_wp2_with (go_at_call 25; refine (lastS_any _ half B _ hcB hh0 hh1).mono ?_; rintro e w' ⟨rfl, rfl⟩)
                      go_roundg k1
                      case measure => have := HK1.out; omega
                      case rel => exact ⟨_, at_ + 1, size + 7, rfl, rfl, rfl, H', ⟨by have := HK1.out; omega⟩, by omega, by omega, by omega, rfl⟩
                  · rw [if_neg cl] at H
                    simp only [Option.some.injEq, Prod.mk.injEq] at H
                    obtain ⟨rfl, rfl, rfl, rfl⟩ := H
                    replace cl := Bool.eq_false_iff.mpr cl
                    go_wp2_with (go_at_call 25; refine (lastS_any _ half B _ hcB hh0 hh1).mono ?_; rintro e w' ⟨rfl, rfl⟩)
                    refine bodyPost_ret (v := .tuple #[.int .u64 0, .int .i64 0, .int .i64 0, .int .i64 8]) (by simp [results, Try.results22]) rfl ⟨rfl, rfl⟩
                · rw [if_neg c6] at H
                  by_cases c7 : rd l0 at_ < 128
                  · rw [if_pos c7] at H
                    simp only [Option.some.injEq, Prod.mk.injEq] at H
                    obtain ⟨rfl, rfl, rfl, rfl⟩ := H
                    go_wp2
                    refine bodyPost_ret (v := .tuple #[.int .u64 _, .int .i64 (at_ + 1), .int .i64 (size + 7), .int .i64 0]) (by simp [results, Try.results22]) rfl ⟨rfl, rfl⟩
                  · rw [if_neg c7] at H
                    have H' := Aside0.mk H
                    clear H
                    go_wp2
                    go_roundg k1
                    case measure => have := HK1.out; omega
                    case rel => exact ⟨_, at_ + 1, size + 7, rfl, rfl, rfl, H', ⟨by have := HK1.out; omega⟩, by omega, by omega, by omega, rfl⟩
              · rw [if_neg c5] at H; cases H
          · rw [if_neg c3] at H
            simp only [Option.some.injEq, Prod.mk.injEq] at H
            obtain ⟨rfl, rfl, rfl, rfl⟩ := H
            go_wp2
            refine bodyPost_ret (v := .tuple #[.int .u64 _, .int .i64 _, .int .i64 _, .int .i64 0]) (by simp [results, Try.results22]) rfl ⟨rfl, rfl⟩
end Go.Proofs.Ytgnnalempnbjnaa
