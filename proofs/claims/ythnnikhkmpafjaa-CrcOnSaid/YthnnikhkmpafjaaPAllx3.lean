-- Written for this claim by a program of this session, out of the translation; not trusted: Lean checks it.
import Derived.Test.YthnnikhkmpafjaaPAllx0
import Derived.Test.YthnnikhkmpafjaaPAllx1
import Derived.Test.YthnnikhkmpafjaaPAllx2
namespace Go.Proofs.Ythnnikhkmpafjaa.PAll
open Go.RowKit Go.Proofs.YthnnikhkmpafjaaW.PrintWords Go.Proofs.YthnnikhkmpafjaaW.PrintLast Go.Proofs.YthnnikhkmpafjaaW.PrintMore
attribute [local go_sem] max2_int min2_int max_two min_two max_three min_three max_four min_four   -- for this text's walks alone
set_option linter.unusedVariables false
set_option linter.unusedSimpArgs false

/-! ### bytebarnlaw03_CrcOn: function 6 -/
mutual
def bytebarnlaw03_CrcOn.j0 : Nat → Int → Int → Int → Int → Bool → Bool → Option (Bool)
  | 0, _, _, _, _, _, _ => none
  | k + 1, x0, x1, x2, x3, x9, x38 => if x38 = true then (some x9) else ((crc_Move.f k x0 x2).bind fun bt154 => ((crc_Move.f k x1 x2).bind fun bt156 => ((crc_Move.f k (Go.bits .xor .u32 x0 x1) x2).bind fun bt158 => (if bt154.2 = 0 then (if bt156.2 = 0 then (if bt158.2 = 0 then (if bt158.1 = (Go.bits .xor .u32 bt154.1 bt156.1) then (bytebarnlaw03_CrcOn.j1 k x0 x2 x3 bt154.1 ((bt154.1 == bt156.1) != (x0 == x1))) else (bytebarnlaw03_CrcOn.j1 k x0 x2 x3 bt154.1 true)) else (bytebarnlaw03_CrcOn.j1 k x0 x2 x3 bt154.1 true)) else (bytebarnlaw03_CrcOn.j1 k x0 x2 x3 bt154.1 true)) else (bytebarnlaw03_CrcOn.j1 k x0 x2 x3 bt154.1 true)))))
def bytebarnlaw03_CrcOn.j1 : Nat → Int → Int → Int → Int → Bool → Option (Bool)
  | 0, _, _, _, _, _ => none
  | k + 1, x0, x2, x3, x10, x85 => if x85 = true then (some false) else ((crc_Move.f k x10 x3).bind fun bt160 => ((crc_Move.f k x0 (wrap64 (x2 + x3))).bind fun bt162 => (if bt160.2 = 0 then (if bt162.2 = 0 then (some (bt160.1 == bt162.1)) else (some false)) else (some false))))
end
def bytebarnlaw03_CrcOn.f (k : Nat) (a0 : Int) (a1 : Int) (a2 : Int) (a3 : Int) : Option (Bool) := (bytebarnlaw03_alive.f).bind fun t153 => (if a2 < 0 then (bytebarnlaw03_CrcOn.j0 k a0 a1 a2 a3 t153 true) else (if a3 < 0 then (bytebarnlaw03_CrcOn.j0 k a0 a1 a2 a3 t153 true) else (if a2 > 4611686018427387904 then (bytebarnlaw03_CrcOn.j0 k a0 a1 a2 a3 t153 true) else (if a3 > 4611686018427387903 then (bytebarnlaw03_CrcOn.j0 k a0 a1 a2 a3 t153 true) else (bytebarnlaw03_CrcOn.j0 k a0 a1 a2 a3 t153 (!t153))))))
theorem bytebarnlaw03_CrcOn.mono_l : ∀ k, (∀ y0 y1 y2 y3 y4 y5, LeO (bytebarnlaw03_CrcOn.j0 k y0 y1 y2 y3 y4 y5) (bytebarnlaw03_CrcOn.j0 (k + 1) y0 y1 y2 y3 y4 y5)) ∧ (∀ y0 y1 y2 y3 y4, LeO (bytebarnlaw03_CrcOn.j1 k y0 y1 y2 y3 y4) (bytebarnlaw03_CrcOn.j1 (k + 1) y0 y1 y2 y3 y4))
  | 0 => ⟨fun _ _ _ _ _ _ r h => by simp [bytebarnlaw03_CrcOn.j0] at h, fun _ _ _ _ _ r h => by simp [bytebarnlaw03_CrcOn.j1] at h⟩
  | k + 1 => by
    obtain ⟨ih0, ih1⟩ := bytebarnlaw03_CrcOn.mono_l k
    refine ⟨?_, ?_⟩
    · intro y0 y1 y2 y3 y4 y5
      unfold bytebarnlaw03_CrcOn.j0
      repeat' first
      | (with_reducible exact ih0 _ _ _ _ _ _)
      | (with_reducible exact ih1 _ _ _ _ _)
      | (with_reducible exact crc_Move.mono _ _ _)
      | (with_reducible exact LeO.refl _)
      | (with_reducible exact LeO.none _)
      | (with_reducible refine LeO.ite ?_ ?_)
      | (with_reducible refine LeO.bind ?_ (fun _ => ?_))
      | exact ih0 _ _ _ _ _ _
      | exact ih1 _ _ _ _ _
      | exact crc_Move.mono _ _ _
      | exact LeO.none _
      | refine LeO.ite ?_ ?_
      | refine LeO.bind ?_ (fun _ => ?_)
    · intro y0 y1 y2 y3 y4
      unfold bytebarnlaw03_CrcOn.j1
      repeat' first
      | (with_reducible exact ih0 _ _ _ _ _ _)
      | (with_reducible exact ih1 _ _ _ _ _)
      | (with_reducible exact crc_Move.mono _ _ _)
      | (with_reducible exact LeO.refl _)
      | (with_reducible exact LeO.none _)
      | (with_reducible refine LeO.ite ?_ ?_)
      | (with_reducible refine LeO.bind ?_ (fun _ => ?_))
      | exact ih0 _ _ _ _ _ _
      | exact ih1 _ _ _ _ _
      | exact crc_Move.mono _ _ _
      | exact LeO.none _
      | refine LeO.ite ?_ ?_
      | refine LeO.bind ?_ (fun _ => ?_)
theorem bytebarnlaw03_CrcOn.mono : ∀ a0 a1 a2 a3 k, LeO (bytebarnlaw03_CrcOn.f k a0 a1 a2 a3) (bytebarnlaw03_CrcOn.f (k + 1) a0 a1 a2 a3) := by
  intro a0 a1 a2 a3 k
  obtain ⟨ih0, ih1⟩ := bytebarnlaw03_CrcOn.mono_l k
  unfold bytebarnlaw03_CrcOn.f
  repeat' first
      | (with_reducible exact ih0 _ _ _ _ _ _)
      | (with_reducible exact ih1 _ _ _ _ _)
      | (with_reducible exact crc_Move.mono _ _ _)
      | (with_reducible exact LeO.refl _)
      | (with_reducible exact LeO.none _)
      | (with_reducible refine LeO.ite ?_ ?_)
      | (with_reducible refine LeO.bind ?_ (fun _ => ?_))
      | exact ih0 _ _ _ _ _ _
      | exact ih1 _ _ _ _ _
      | exact crc_Move.mono _ _ _
      | exact LeO.none _
      | refine LeO.ite ?_ ?_
      | refine LeO.bind ?_ (fun _ => ?_)
set_option maxHeartbeats 8000000 in
set_option maxRecDepth 100000 in
theorem bytebarnlaw03_CrcOn.calls (k : Nat) (a0 : Int) (a1 : Int) (a2 : Int) (a3 : Int) (r : Bool) (w : World) (h : bytebarnlaw03_CrcOn.f k a0 a1 a2 a3 = some r) :
    Calls Try.prog 6 #[.int .u32 a0, .int .u32 a1, .int .i64 a2, .int .i64 a3] w fun e w' => e = .returned (.bool r) ∧ Below w.heap.size w w' := by
  have HB := Aside0.mk (Below.refl w.heap.size w)
  have H : ((bytebarnlaw03_alive.f).bind fun t153 => (if a2 < 0 then (bytebarnlaw03_CrcOn.j0 k a0 a1 a2 a3 t153 true) else (if a3 < 0 then (bytebarnlaw03_CrcOn.j0 k a0 a1 a2 a3 t153 true) else (if a2 > 4611686018427387904 then (bytebarnlaw03_CrcOn.j0 k a0 a1 a2 a3 t153 true) else (if a3 > 4611686018427387903 then (bytebarnlaw03_CrcOn.j0 k a0 a1 a2 a3 t153 true) else (bytebarnlaw03_CrcOn.j0 k a0 a1 a2 a3 t153 (!t153))))))) = some r := h
  clear h
  replace H := Option.bind_eq_some_iff.mp H
  obtain ⟨t153, A50, H⟩ := H
  replace H : (if a2 < 0 then (bytebarnlaw03_CrcOn.j0 k a0 a1 a2 a3 t153 true) else (if a3 < 0 then (bytebarnlaw03_CrcOn.j0 k a0 a1 a2 a3 t153 true) else (if a2 > 4611686018427387904 then (bytebarnlaw03_CrcOn.j0 k a0 a1 a2 a3 t153 true) else (if a3 > 4611686018427387903 then (bytebarnlaw03_CrcOn.j0 k a0 a1 a2 a3 t153 true) else (bytebarnlaw03_CrcOn.j0 k a0 a1 a2 a3 t153 (!t153)))))) = some r := H
  have A5 := Aside0.mk A50
  clear A50
  have HC6 := Aside0.mk H
  clear H
  go_enter Try.func6, Try.ntmps6
  go_upto_region 2 with (first | ((with_reducible refine gate_callee (f := 11) rfl ?_); refine goesL_ (some 20) rfl rfl Try.func11 (by kernel_rfl) rfl #[] rfl (by (try simp only [List.map_toArray, List.map_cons, List.map_nil]); first | done | rfl | (simp only [List.length_drop, List.length_take]; rfl)) ?_; (with_reducible refine (bytebarnlaw03_alive.calls  t153 _ A5.out).mono ?_); rintro e w7 ⟨rfl, hb⟩; refine ⟨_, rfl, ?_⟩; have n0_ := Aside0.mk (below_step (by repeat (first | (with_reducible first | exact HB.out | apply below_alloc | apply pw_below_drewN | apply below_drew1) | exact HB.out)) hb); clear HB; have HB := n0_; clear n0_; (try clear hb); (try clear hb2); (try clear hk); (try clear hi)))
  (try simp only [Act.put, List.setIfInBounds_toArray, List.set_cons_zero, List.set_cons_succ])
  go_cut [38] (fun v38 wc => ∃ (kq : Nat) (x38_5 : Bool), v38 = .bool x38_5 ∧ Aside0 (bytebarnlaw03_CrcOn.j0 kq a0 a1 a2 a3 t153 x38_5 = some r) ∧ Aside0 (kq ≤ k) ∧ Aside0 (Below w.heap.size w wc))
  case first =>
    have H := HC6.out
    clear HC6
    by_cases c8 : a2 < 0
    · rw [if_pos c8] at H
      have c8b0 : decide (a2 < 0) = true := decide_eq_true c8
      clear c8
      (first | rw [c8b0] | (simp only [i64_w, i32_w]; rw [c8b0]) | skip)
      have H' := Aside0.mk H
      clear H
      go_wp2
      go_meet
      case rel => exact ⟨_, (true), (by first | rfl | (simp; done) | (simp [*]; done)), H', ⟨by first | omega | exact Nat.le_refl _⟩, ⟨by repeat (first | (with_reducible first | exact HB.out | apply below_alloc | apply pw_below_drewN | apply below_drew1) | exact HB.out)⟩⟩
    · rw [if_neg c8] at H
      have c8b0 : decide (a2 < 0) = false := decide_eq_false c8
      clear c8
      (first | rw [c8b0] | (simp only [i64_w, i32_w]; rw [c8b0]) | skip)
      by_cases c9 : a3 < 0
      · rw [if_pos c9] at H
        have c9b0 : decide (a3 < 0) = true := decide_eq_true c9
        clear c9
        have H' := Aside0.mk H
        clear H
        go_wp2
        go_meet
        case rel => exact ⟨_, (true), (by first | rfl | (simp; done) | (simp [*]; done)), H', ⟨by first | omega | exact Nat.le_refl _⟩, ⟨by repeat (first | (with_reducible first | exact HB.out | apply below_alloc | apply pw_below_drewN | apply below_drew1) | exact HB.out)⟩⟩
      · rw [if_neg c9] at H
        have c9b0 : decide (a3 < 0) = false := decide_eq_false c9
        clear c9
        by_cases c10 : a2 > 4611686018427387904
        · rw [if_pos c10] at H
          have c10b0 : decide (4611686018427387904 < a2) = true := decide_eq_true c10
          clear c10
          have H' := Aside0.mk H
          clear H
          go_wp2
          go_meet
          case rel => exact ⟨_, (true), (by first | rfl | (simp; done) | (simp [*]; done)), H', ⟨by first | omega | exact Nat.le_refl _⟩, ⟨by repeat (first | (with_reducible first | exact HB.out | apply below_alloc | apply pw_below_drewN | apply below_drew1) | exact HB.out)⟩⟩
        · rw [if_neg c10] at H
          have c10b0 : decide (4611686018427387904 < a2) = false := decide_eq_false c10
          clear c10
          by_cases c11 : a3 > 4611686018427387903
          · rw [if_pos c11] at H
            have c11b0 : decide (4611686018427387903 < a3) = true := decide_eq_true c11
            clear c11
            have H' := Aside0.mk H
            clear H
            go_wp2
            go_meet
            case rel => exact ⟨_, (true), (by first | rfl | (simp; done) | (simp [*]; done)), H', ⟨by first | omega | exact Nat.le_refl _⟩, ⟨by repeat (first | (with_reducible first | exact HB.out | apply below_alloc | apply pw_below_drewN | apply below_drew1) | exact HB.out)⟩⟩
          · rw [if_neg c11] at H
            have c11b0 : decide (4611686018427387903 < a3) = false := decide_eq_false c11
            clear c11
            have H' := Aside0.mk H
            clear H
            go_wp2
            go_meet
            case rel => exact ⟨_, (!t153), (by first | rfl | (simp; done) | (simp [*]; done)), H', ⟨by first | omega | exact Nat.le_refl _⟩, ⟨by repeat (first | (with_reducible first | exact HB.out | apply below_alloc | apply pw_below_drewN | apply below_drew1) | exact HB.out)⟩⟩
  case rest =>
    clear HC6
    try clear c1
    try clear p2
    try clear c6
    try clear c8
    try clear c8b0
    try clear c9
    try clear c9b0
    try clear c10
    try clear c10b0
    try clear c11
    try clear c11b0
    obtain ⟨kq, x38_5, rfl, HA, HJ5, HB⟩ := hcut
    cases kq with
    | zero => exact absurd HA.out (by simp [bytebarnlaw03_CrcOn.j0])
    | succ kj5 =>
      have H := HA.out
      clear HA
      simp only [bytebarnlaw03_CrcOn.j0] at H
      by_cases c12 : x38_5 = true
      · subst c12
        have H1 : (some t153) = some r := by rw [if_pos rfl] at H; exact H
        clear H
        have H := H1
        clear H1
        obtain rfl := Option.some.inj H
        go_wp2
        go_ret
        exact ⟨by first | rfl | (simp [errW_none, errW_some] <;> rfl) | (simp [*, errW_none, errW_some] <;> rfl), by repeat (first | (with_reducible first | exact HB.out | apply below_alloc | apply pw_below_drewN | apply below_drew1) | exact HB.out)⟩
      · replace c12 := Bool.eq_false_iff.mpr c12
        subst c12
        have H1 : ((crc_Move.f kj5 a0 a2).bind fun bt154 => ((crc_Move.f kj5 a1 a2).bind fun bt156 => ((crc_Move.f kj5 (Go.bits .xor .u32 a0 a1) a2).bind fun bt158 => (if bt154.2 = 0 then (if bt156.2 = 0 then (if bt158.2 = 0 then (if bt158.1 = (Go.bits .xor .u32 bt154.1 bt156.1) then (bytebarnlaw03_CrcOn.j1 kj5 a0 a2 a3 bt154.1 ((bt154.1 == bt156.1) != (a0 == a1))) else (bytebarnlaw03_CrcOn.j1 kj5 a0 a2 a3 bt154.1 true)) else (bytebarnlaw03_CrcOn.j1 kj5 a0 a2 a3 bt154.1 true)) else (bytebarnlaw03_CrcOn.j1 kj5 a0 a2 a3 bt154.1 true)) else (bytebarnlaw03_CrcOn.j1 kj5 a0 a2 a3 bt154.1 true))))) = some r := by rw [if_neg (show ¬ (false = true) by decide)] at H; exact H
        clear H
        have H := H1
        clear H1
        replace H := Option.bind_eq_some_iff.mp H
        obtain ⟨⟨t154, t155⟩, A130, H⟩ := H
        replace H : ((crc_Move.f kj5 a1 a2).bind fun bt156 => ((crc_Move.f kj5 (Go.bits .xor .u32 a0 a1) a2).bind fun bt158 => (if t155 = 0 then (if bt156.2 = 0 then (if bt158.2 = 0 then (if bt158.1 = (Go.bits .xor .u32 t154 bt156.1) then (bytebarnlaw03_CrcOn.j1 kj5 a0 a2 a3 t154 ((t154 == bt156.1) != (a0 == a1))) else (bytebarnlaw03_CrcOn.j1 kj5 a0 a2 a3 t154 true)) else (bytebarnlaw03_CrcOn.j1 kj5 a0 a2 a3 t154 true)) else (bytebarnlaw03_CrcOn.j1 kj5 a0 a2 a3 t154 true)) else (bytebarnlaw03_CrcOn.j1 kj5 a0 a2 a3 t154 true)))) = some r := H
        have A13 := Aside0.mk A130
        clear A130
        replace H := Option.bind_eq_some_iff.mp H
        obtain ⟨⟨t156, t157⟩, A140, H⟩ := H
        replace H : ((crc_Move.f kj5 (Go.bits .xor .u32 a0 a1) a2).bind fun bt158 => (if t155 = 0 then (if t157 = 0 then (if bt158.2 = 0 then (if bt158.1 = (Go.bits .xor .u32 t154 t156) then (bytebarnlaw03_CrcOn.j1 kj5 a0 a2 a3 t154 ((t154 == t156) != (a0 == a1))) else (bytebarnlaw03_CrcOn.j1 kj5 a0 a2 a3 t154 true)) else (bytebarnlaw03_CrcOn.j1 kj5 a0 a2 a3 t154 true)) else (bytebarnlaw03_CrcOn.j1 kj5 a0 a2 a3 t154 true)) else (bytebarnlaw03_CrcOn.j1 kj5 a0 a2 a3 t154 true))) = some r := H
        have A14 := Aside0.mk A140
        clear A140
        replace H := Option.bind_eq_some_iff.mp H
        obtain ⟨⟨t158, t159⟩, A150, H⟩ := H
        replace H : (if t155 = 0 then (if t157 = 0 then (if t159 = 0 then (if t158 = (Go.bits .xor .u32 t154 t156) then (bytebarnlaw03_CrcOn.j1 kj5 a0 a2 a3 t154 ((t154 == t156) != (a0 == a1))) else (bytebarnlaw03_CrcOn.j1 kj5 a0 a2 a3 t154 true)) else (bytebarnlaw03_CrcOn.j1 kj5 a0 a2 a3 t154 true)) else (bytebarnlaw03_CrcOn.j1 kj5 a0 a2 a3 t154 true)) else (bytebarnlaw03_CrcOn.j1 kj5 a0 a2 a3 t154 true)) = some r := H
        have A15 := Aside0.mk A150
        clear A150
        have HC16 := Aside0.mk H
        clear H
        go_upto_region 7 with (first | ((with_reducible refine gate_callee (f := 12) rfl ?_); refine goesL_ (some 43) rfl rfl Try.func12 (by kernel_rfl) rfl #[.int .u32 a0, .int .i64 a2] rfl (by (try simp only [List.map_toArray, List.map_cons, List.map_nil]); first | done | rfl | (simp only [List.length_drop, List.length_take]; rfl)) ?_; (with_reducible refine (crc_Move.calls kj5 a0 a2 t154 t155 _ A13.out).mono ?_); rintro e w' ⟨rfl, ⟨nd, rfl⟩⟩; refine ⟨_, rfl, ?_⟩) | ((with_reducible refine gate_callee (f := 12) rfl ?_); refine goesL_ (some 49) rfl rfl Try.func12 (by kernel_rfl) rfl #[.int .u32 a1, .int .i64 a2] rfl (by (try simp only [List.map_toArray, List.map_cons, List.map_nil]); first | done | rfl | (simp only [List.length_drop, List.length_take]; rfl)) ?_; (with_reducible refine (crc_Move.calls kj5 a1 a2 t156 t157 _ A14.out).mono ?_); rintro e w' ⟨rfl, ⟨nd, rfl⟩⟩; refine ⟨_, rfl, ?_⟩) | ((with_reducible refine gate_callee (f := 12) rfl ?_); refine goesL_ (some 57) rfl rfl Try.func12 (by kernel_rfl) rfl #[.int .u32 (Go.bits .xor .u32 a0 a1), .int .i64 a2] rfl (by (try simp only [List.map_toArray, List.map_cons, List.map_nil]); first | done | rfl | (simp only [List.length_drop, List.length_take]; rfl)) ?_; (with_reducible refine (crc_Move.calls kj5 (Go.bits .xor .u32 a0 a1) a2 t158 t159 _ A15.out).mono ?_); rintro e w' ⟨rfl, ⟨nd, rfl⟩⟩; refine ⟨_, rfl, ?_⟩))
        (try simp only [Act.put, List.setIfInBounds_toArray, List.set_cons_zero, List.set_cons_succ])
        go_cut [85] (fun v85 wc => ∃ (kq : Nat) (x85_15 : Bool), v85 = .bool x85_15 ∧ Aside0 (bytebarnlaw03_CrcOn.j1 kq a0 a2 a3 t154 x85_15 = some r) ∧ Aside0 (kq ≤ kj5) ∧ Aside0 (Below w.heap.size w wc))
        case first =>
          have H := HC16.out
          clear HC16
          by_cases c17 : t155 = 0
          · rw [if_pos c17] at H
            have c17b0 : (t155 == 0) = true := beq_iff_eq.mpr c17
            have c17b1 : (t155 != 0) = false := bne_eq_false_iff_eq.mpr c17
            clear c17
            (first | rw [c17b0] | (simp only [i64_w, i32_w]; rw [c17b0]) | skip)
            by_cases c18 : t157 = 0
            · rw [if_pos c18] at H
              have c18b0 : (t157 == 0) = true := beq_iff_eq.mpr c18
              have c18b1 : (t157 != 0) = false := bne_eq_false_iff_eq.mpr c18
              clear c18
              by_cases c19 : t159 = 0
              · rw [if_pos c19] at H
                have c19b0 : (t159 == 0) = true := beq_iff_eq.mpr c19
                have c19b1 : (t159 != 0) = false := bne_eq_false_iff_eq.mpr c19
                clear c19
                by_cases c20 : t158 = (Go.bits .xor .u32 t154 t156)
                · rw [if_pos c20] at H
                  have c20b0 : (t158 == (Go.bits .xor .u32 t154 t156)) = true := beq_iff_eq.mpr c20
                  have c20b1 : (t158 != (Go.bits .xor .u32 t154 t156)) = false := bne_eq_false_iff_eq.mpr c20
                  clear c20
                  have H' := Aside0.mk H
                  clear H
                  go_wp2
                  go_meet
                  case rel => exact ⟨_, (((t154 == t156) != (a0 == a1))), (by first | rfl | (simp; done) | (simp [*]; done)), H', ⟨by have := HJ5.out; first | omega | exact Nat.le_refl _⟩, ⟨by repeat (first | (with_reducible first | exact HB.out | apply below_alloc | apply pw_below_drewN | apply below_drew1) | exact HB.out)⟩⟩
                · rw [if_neg c20] at H
                  have c20b0 : (t158 == (Go.bits .xor .u32 t154 t156)) = false := beq_eq_false_iff_ne.mpr c20
                  have c20b1 : (t158 != (Go.bits .xor .u32 t154 t156)) = true := bne_iff_ne.mpr c20
                  have H' := Aside0.mk H
                  clear H
                  go_wp2
                  go_meet
                  case rel => exact ⟨_, (true), (by first | rfl | (simp; done) | (simp [*]; done)), H', ⟨by have := HJ5.out; first | omega | exact Nat.le_refl _⟩, ⟨by repeat (first | (with_reducible first | exact HB.out | apply below_alloc | apply pw_below_drewN | apply below_drew1) | exact HB.out)⟩⟩
              · rw [if_neg c19] at H
                have c19b0 : (t159 == 0) = false := beq_eq_false_iff_ne.mpr c19
                have c19b1 : (t159 != 0) = true := bne_iff_ne.mpr c19
                have H' := Aside0.mk H
                clear H
                go_wp2
                go_meet
                case rel => exact ⟨_, (true), (by first | rfl | (simp; done) | (simp [*]; done)), H', ⟨by have := HJ5.out; first | omega | exact Nat.le_refl _⟩, ⟨by repeat (first | (with_reducible first | exact HB.out | apply below_alloc | apply pw_below_drewN | apply below_drew1) | exact HB.out)⟩⟩
            · rw [if_neg c18] at H
              have c18b0 : (t157 == 0) = false := beq_eq_false_iff_ne.mpr c18
              have c18b1 : (t157 != 0) = true := bne_iff_ne.mpr c18
              have H' := Aside0.mk H
              clear H
              go_wp2
              go_meet
              case rel => exact ⟨_, (true), (by first | rfl | (simp; done) | (simp [*]; done)), H', ⟨by have := HJ5.out; first | omega | exact Nat.le_refl _⟩, ⟨by repeat (first | (with_reducible first | exact HB.out | apply below_alloc | apply pw_below_drewN | apply below_drew1) | exact HB.out)⟩⟩
          · rw [if_neg c17] at H
            have c17b0 : (t155 == 0) = false := beq_eq_false_iff_ne.mpr c17
            have c17b1 : (t155 != 0) = true := bne_iff_ne.mpr c17
            (first | rw [c17b0] | (simp only [i64_w, i32_w]; rw [c17b0]) | skip)
            have H' := Aside0.mk H
            clear H
            go_wp2
            go_meet
            case rel => exact ⟨_, (true), (by first | rfl | (simp; done) | (simp [*]; done)), H', ⟨by have := HJ5.out; first | omega | exact Nat.le_refl _⟩, ⟨by repeat (first | (with_reducible first | exact HB.out | apply below_alloc | apply pw_below_drewN | apply below_drew1) | exact HB.out)⟩⟩
        case rest =>
          clear HC16
          try clear c1
          try clear c2
          try clear p2
          try clear c6
          try clear c8
          try clear c8b0
          try clear c9
          try clear c9b0
          try clear c10
          try clear c10b0
          try clear c11
          try clear c11b0
          try clear c12
          try clear c17
          try clear c17b0
          try clear c17b1
          try clear c18
          try clear c18b0
          try clear c18b1
          try clear c19
          try clear c19b0
          try clear c19b1
          try clear c20
          try clear c20b0
          try clear c20b1
          try clear p2
          obtain ⟨kq, x85_15, rfl, HA, HJ15, HB⟩ := hcut
          cases kq with
          | zero => exact absurd HA.out (by simp [bytebarnlaw03_CrcOn.j1])
          | succ kj15 =>
            have H := HA.out
            clear HA
            simp only [bytebarnlaw03_CrcOn.j1] at H
            by_cases c21 : x85_15 = true
            · subst c21
              have H1 : (some false) = some r := by rw [if_pos rfl] at H; exact H
              clear H
              have H := H1
              clear H1
              obtain rfl := Option.some.inj H
              go_wp2
              go_ret
              exact ⟨by first | rfl | (simp [errW_none, errW_some] <;> rfl) | (simp [*, errW_none, errW_some] <;> rfl), by repeat (first | (with_reducible first | exact HB.out | apply below_alloc | apply pw_below_drewN | apply below_drew1) | exact HB.out)⟩
            · replace c21 := Bool.eq_false_iff.mpr c21
              subst c21
              have H1 : ((crc_Move.f kj15 t154 a3).bind fun bt160 => ((crc_Move.f kj15 a0 (wrap64 (a2 + a3))).bind fun bt162 => (if bt160.2 = 0 then (if bt162.2 = 0 then (some (bt160.1 == bt162.1)) else (some false)) else (some false)))) = some r := by rw [if_neg (show ¬ (false = true) by decide)] at H; exact H
              clear H
              have H := H1
              clear H1
              replace H := Option.bind_eq_some_iff.mp H
              obtain ⟨⟨t160, t161⟩, A220, H⟩ := H
              replace H : ((crc_Move.f kj15 a0 (wrap64 (a2 + a3))).bind fun bt162 => (if t161 = 0 then (if bt162.2 = 0 then (some (t160 == bt162.1)) else (some false)) else (some false))) = some r := H
              have A22 := Aside0.mk A220
              clear A220
              replace H := Option.bind_eq_some_iff.mp H
              obtain ⟨⟨t162, t163⟩, A230, H⟩ := H
              replace H : (if t161 = 0 then (if t163 = 0 then (some (t160 == t162)) else (some false)) else (some false)) = some r := H
              have A23 := Aside0.mk A230
              clear A230
              by_cases c24 : t161 = 0
              · rw [if_pos c24] at H
                have c24b0 : (t161 == 0) = true := beq_iff_eq.mpr c24
                have c24b1 : (t161 != 0) = false := bne_eq_false_iff_eq.mpr c24
                clear c24
                by_cases c25 : t163 = 0
                · rw [if_pos c25] at H
                  have c25b0 : (t163 == 0) = true := beq_iff_eq.mpr c25
                  have c25b1 : (t163 != 0) = false := bne_eq_false_iff_eq.mpr c25
                  clear c25
                  obtain rfl := Option.some.inj H
                  go_wp2_with (first | ((with_reducible refine gate_callee (f := 12) rfl ?_); refine goesL_ (some 89) rfl rfl Try.func12 (by kernel_rfl) rfl #[.int .u32 t154, .int .i64 a3] rfl (by (try simp only [List.map_toArray, List.map_cons, List.map_nil]); first | done | rfl | (simp only [List.length_drop, List.length_take]; rfl)) ?_; (with_reducible refine (crc_Move.calls kj15 t154 a3 t160 t161 _ A22.out).mono ?_); rintro e w' ⟨rfl, ⟨nd, rfl⟩⟩; refine ⟨_, rfl, ?_⟩) | ((with_reducible refine gate_callee (f := 12) rfl ?_); refine goesL_ (some 97) rfl rfl Try.func12 (by kernel_rfl) rfl #[.int .u32 a0, .int .i64 (wrap64 (a2 + a3))] rfl (by (try simp only [List.map_toArray, List.map_cons, List.map_nil]); first | done | rfl | (simp only [List.length_drop, List.length_take]; rfl)) ?_; (with_reducible refine (crc_Move.calls kj15 a0 (wrap64 (a2 + a3)) t162 t163 _ A23.out).mono ?_); rintro e w' ⟨rfl, ⟨nd, rfl⟩⟩; refine ⟨_, rfl, ?_⟩))
                  go_ret
                  exact ⟨by first | rfl | (simp [errW_none, errW_some] <;> rfl) | (simp [*, errW_none, errW_some] <;> rfl), by repeat (first | (with_reducible first | exact HB.out | apply below_alloc | apply pw_below_drewN | apply below_drew1) | exact HB.out)⟩
                · rw [if_neg c25] at H
                  have c25b0 : (t163 == 0) = false := beq_eq_false_iff_ne.mpr c25
                  have c25b1 : (t163 != 0) = true := bne_iff_ne.mpr c25
                  obtain rfl := Option.some.inj H
                  go_wp2_with (first | ((with_reducible refine gate_callee (f := 12) rfl ?_); refine goesL_ (some 89) rfl rfl Try.func12 (by kernel_rfl) rfl #[.int .u32 t154, .int .i64 a3] rfl (by (try simp only [List.map_toArray, List.map_cons, List.map_nil]); first | done | rfl | (simp only [List.length_drop, List.length_take]; rfl)) ?_; (with_reducible refine (crc_Move.calls kj15 t154 a3 t160 t161 _ A22.out).mono ?_); rintro e w' ⟨rfl, ⟨nd, rfl⟩⟩; refine ⟨_, rfl, ?_⟩) | ((with_reducible refine gate_callee (f := 12) rfl ?_); refine goesL_ (some 97) rfl rfl Try.func12 (by kernel_rfl) rfl #[.int .u32 a0, .int .i64 (wrap64 (a2 + a3))] rfl (by (try simp only [List.map_toArray, List.map_cons, List.map_nil]); first | done | rfl | (simp only [List.length_drop, List.length_take]; rfl)) ?_; (with_reducible refine (crc_Move.calls kj15 a0 (wrap64 (a2 + a3)) t162 t163 _ A23.out).mono ?_); rintro e w' ⟨rfl, ⟨nd, rfl⟩⟩; refine ⟨_, rfl, ?_⟩))
                  go_ret
                  exact ⟨by first | rfl | (simp [errW_none, errW_some] <;> rfl) | (simp [*, errW_none, errW_some] <;> rfl), by repeat (first | (with_reducible first | exact HB.out | apply below_alloc | apply pw_below_drewN | apply below_drew1) | exact HB.out)⟩
              · rw [if_neg c24] at H
                have c24b0 : (t161 == 0) = false := beq_eq_false_iff_ne.mpr c24
                have c24b1 : (t161 != 0) = true := bne_iff_ne.mpr c24
                obtain rfl := Option.some.inj H
                go_wp2_with (first | ((with_reducible refine gate_callee (f := 12) rfl ?_); refine goesL_ (some 89) rfl rfl Try.func12 (by kernel_rfl) rfl #[.int .u32 t154, .int .i64 a3] rfl (by (try simp only [List.map_toArray, List.map_cons, List.map_nil]); first | done | rfl | (simp only [List.length_drop, List.length_take]; rfl)) ?_; (with_reducible refine (crc_Move.calls kj15 t154 a3 t160 t161 _ A22.out).mono ?_); rintro e w' ⟨rfl, ⟨nd, rfl⟩⟩; refine ⟨_, rfl, ?_⟩) | ((with_reducible refine gate_callee (f := 12) rfl ?_); refine goesL_ (some 97) rfl rfl Try.func12 (by kernel_rfl) rfl #[.int .u32 a0, .int .i64 (wrap64 (a2 + a3))] rfl (by (try simp only [List.map_toArray, List.map_cons, List.map_nil]); first | done | rfl | (simp only [List.length_drop, List.length_take]; rfl)) ?_; (with_reducible refine (crc_Move.calls kj15 a0 (wrap64 (a2 + a3)) t162 t163 _ A23.out).mono ?_); rintro e w' ⟨rfl, ⟨nd, rfl⟩⟩; refine ⟨_, rfl, ?_⟩))
                go_ret
                exact ⟨by first | rfl | (simp [errW_none, errW_some] <;> rfl) | (simp [*, errW_none, errW_some] <;> rfl), by repeat (first | (with_reducible first | exact HB.out | apply below_alloc | apply pw_below_drewN | apply below_drew1) | exact HB.out)⟩

/-- THE ONE PURE STATEMENT of bytebarnlaw03_CrcOn: yours. -/
def bytebarnlaw03_CrcOn.Pure : Prop := ∀ (a0 : Int) (a1 : Int) (a2 : Int) (a3 : Int), (Lit.int .u32 a0).wf = true → (Lit.int .u32 a1).wf = true → (Lit.int .i64 a2).wf = true → (Lit.int .i64 a3).wf = true → ∃ k, bytebarnlaw03_CrcOn.f k a0 a1 a2 a3 = some true
theorem bytebarnlaw03_CrcOn.walk (P : bytebarnlaw03_CrcOn.Pure) (a0 : Int) (a1 : Int) (a2 : Int) (a3 : Int) (w : World) (w0 : (Lit.int .u32 a0).wf = true) (w1 : (Lit.int .u32 a1).wf = true) (w2 : (Lit.int .i64 a2).wf = true) (w3 : (Lit.int .i64 a3).wf = true) :
    Calls Try.prog 6 #[.int .u32 a0, .int .u32 a1, .int .i64 a2, .int .i64 a3] w fun e w' => e = .returned (.bool true) ∧ Below w.heap.size w w' := by
  obtain ⟨k, h⟩ := P a0 a1 a2 a3 w0 w1 w2 w3
  refine (bytebarnlaw03_CrcOn.calls k a0 a1 a2 a3 true w h).mono ?_
  rintro e w' ⟨rfl, hd⟩
  exact ⟨rfl, hd⟩

end Go.Proofs.Ythnnikhkmpafjaa.PAll
