/-
  CrcCuts' own walk. No statement is proved here.
-/
import Derived.Test.YthnnikhkmpafjaaCrcF
import Derived.Deep.RegionHeld3
namespace Go.Proofs.Ythnnikhkmpafjaa
open Go.RowKit Go.Shelf Go.Proofs.Ythnnikhkmpafjaa.PAll Go.Proofs.YthnnikhkmpafjaaW.PrintWords Go.Proofs.YthnnikhkmpafjaaW.PrintLast Go.Proofs.YthnnikhkmpafjaaW.PrintMore
theorem heap_drew' (W : World) : W.drew.heap = W.heap := rfl
/-- crc.Sum of one row of bytes, wherever the list of it lies. -/
theorem sum_at1 {W : World} {b : Nat} {A0 : Option Addr} {c0 n : Nat} {l0 : List Int} (h2 : W.heap[b]? = some (.cells #[.slice A0 n c0] 22 (0, 0))) (hn : n = l0.length) (h : Kd.C (Kd.int .u8) W A0 l0.length l0) (hx : Byt l0) :
    Calls Try.prog 9 #[.slice (some ⟨b, 0, none⟩) 1 1] W fun e w' => e = .returned (.int .u32 (U (cSum (l0.map u8)))) ∧ Below W.heap.size W w' := by
  subst hn
  have hlt : b < W.heap.size := by
    rcases Nat.lt_or_ge b W.heap.size with h | h
    · exact h
    · rw [Array.getElem?_eq_none h] at h2; cases h2
  have hP : Parts W.heap.size W (some ⟨b, 0, none⟩) [l0.map u8] := ⟨by simp, .inr ⟨_, 0, rfl, hlt, fun i hi => by
    obtain rfl : i = 0 := by simpa using hi
    exact ⟨_, by rw [cell_of_row W _ _ _ _ _ h2]; rfl, bytes_of_C h hx⟩⟩⟩
  refine (sum_any _ 1 [l0.map u8] W hP).mono ?_
  rintro e w' ⟨rfl, hb⟩
  exact ⟨by simp, hb⟩
/-- crc.Sum of two rows of bytes, wherever the list of them lies. -/
theorem sum_at2 {W : World} {b : Nat} {A0 A1 : Option Addr} {c0 c1 n0 n1 : Nat} {l0 l1 : List Int} (h2 : W.heap[b]? = some (.cells #[.slice A0 n0 c0, .slice A1 n1 c1] 22 (0, 0))) (hn : n0 = l0.length) (hn1 : n1 = l1.length) (h : Kd.C (Kd.int .u8) W A0 l0.length l0) (h1 : Kd.C (Kd.int .u8) W A1 l1.length l1) (hx : Byt l0) (hx1 : Byt l1) :
    Calls Try.prog 9 #[.slice (some ⟨b, 0, none⟩) 2 2] W fun e w' => e = .returned (.int .u32 (U (cSum ((l0 ++ l1).map u8)))) ∧ Below W.heap.size W w' := by
  subst hn hn1
  have hlt : b < W.heap.size := by
    rcases Nat.lt_or_ge b W.heap.size with h | h
    · exact h
    · rw [Array.getElem?_eq_none h] at h2; cases h2
  have hP : Parts W.heap.size W (some ⟨b, 0, none⟩) [l0.map u8, l1.map u8] := ⟨by simp, .inr ⟨_, 0, rfl, hlt, fun i hi => by
    have : i = 0 ∨ i = 1 := by simp at hi; omega
    rcases this with rfl | rfl
    · exact ⟨_, by rw [cell_of_row W _ _ _ _ _ h2]; rfl, bytes_of_C h hx⟩
    · exact ⟨_, by rw [cell_of_row W _ _ _ _ _ h2]; rfl, bytes_of_C h1 hx1⟩⟩⟩
  refine (sum_any _ 2 [l0.map u8, l1.map u8] W hP).mono ?_
  rintro e w' ⟨rfl, hb⟩
  exact ⟨by simp, hb⟩
theorem cSum_append (xs ys : List UInt8) : cSum (xs ++ ys) = csN (8 * ys.length) (cSum xs) ^^^ cSum ys := by
  unfold cSum
  rw [cF_append]
  have e : cF (BitVec.allOnes 32) xs = (~~~ (cF (BitVec.allOnes 32) xs)) ^^^ BitVec.allOnes 32 := by
    rw [BitVec.xor_allOnes, BitVec.not_not]
  have h := cF_xor ys (~~~ (cF (BitVec.allOnes 32) xs)) (BitVec.allOnes 32)
  rw [← e] at h
  rw [h]
  apply BitVec.eq_of_getLsbD_eq
  intro i hi
  simp only [BitVec.getLsbD_not, BitVec.getLsbD_xor, hi, decide_true, Bool.true_and]
  cases (csN (8 * ys.length) (~~~ (cF (BitVec.allOnes 32) xs))).getLsbD i <;> cases (cF (BitVec.allOnes 32) ys).getLsbD i <;> rfl
theorem join_f (xs ys : List UInt8) (h : ys.length ≤ 100000) : crc_Join.f (ys.length + 40) (U (cSum xs)) (U (cSum ys)) (ys.length : Int) = some (U (cSum (xs ++ ys)), 0) := by
  unfold crc_Join.f
  rw [move_f (cSum xs) ys.length (by omega) _ (by omega), Option.bind_some, if_pos rfl, U_xor, cSum_append]
theorem Byt.take {l : List Int} (h : Byt l) (n : Nat) : Byt (l.take n) := fun x hx => h x (List.mem_of_mem_take hx)
theorem Byt.drop {l : List Int} (h : Byt l) (n : Nat) : Byt (l.drop n) := fun x hx => h x (List.mem_of_mem_drop hx)
set_option maxHeartbeats 8000000 in
set_option maxRecDepth 100000 in
theorem cuts_any (A0 : Option Addr) (c0 : Nat) (l0 : List Int) (a1 : Int) (w : World) (hr0 : Kd.C (Kd.int .u8) w A0 l0.length l0) (hc0 : l0.length ≤ c0) (hx0 : Byt l0) (ha0 : 0 ≤ a1) (ha1 : a1 < 65536) :
    Calls Try.prog 8 #[.slice A0 l0.length c0, .int .u16 a1] w fun e w' => e = .returned (.bool true) ∧ Below w.heap.size w w' := by

  have HR0 := Aside0.mk hr0
  have HC0 := Aside0.mk hc0
  clear hr0 hc0
  have HB := Aside0.mk (Below.refl w.heap.size w)
  go_enter Try.func8, Try.ntmps8
  by_cases c4 : (l0.length : Int) > 3000
  · have c4b0 : decide (3000 < (l0.length : Int)) = true := decide_eq_true c4
    have c4b1 : decide (3000 < l0.length) = true := decide_eq_true (by omega)
    go_wp2_with (go_at_call 11; with_reducible refine (alive_any _).mono ?_; rintro e w8 ⟨rfl, hb8⟩)
    go_ret
    exact ⟨rfl, hb8⟩
  · have c4b0 : decide (3000 < (l0.length : Int)) = false := decide_eq_false c4
    have c4b1 : decide (3000 < l0.length) = false := decide_eq_false (by omega)
    obtain ⟨K, hK⟩ : ∃ K : Nat, (K : Int) = a1 % ((l0.length : Int) + 1) := ⟨(a1 % ((l0.length : Int) + 1)).toNat, by have := Int.emod_nonneg a1 (show (l0.length : Int) + 1 ≠ 0 by omega); omega⟩
    have hKl : K ≤ l0.length := by have := Int.emod_lt_of_pos a1 (show (0 : Int) < (l0.length : Int) + 1 by omega); omega
    have HX0 := Aside0.mk hx0
    have HK := Aside0.mk hK
    go_upto_region 6 with (first
      | (go_at_call 11; with_reducible refine (alive_any _).mono ?_; rintro e w8 ⟨rfl, hb⟩; have n1_ := Aside0.mk (below_step HB.out hb); clear HB; have HB := n1_; clear n1_; clear hb)
      | (go_at_call 9; with_reducible refine (sum_of1 _ (Kd.C_below HR0.out HB.out) HX0.out).mono ?_; rintro e w9 ⟨rfl, hb⟩; have n1_ := Aside0.mk (below_step HB.out hb); clear HB; have HB := n1_; clear n1_; clear hb))
    rw [← HK.out]
    obtain ⟨i5, hi5, hh5⟩ := Option.map_eq_some_iff.mp info5
    simp only [Prod.mk.injEq] at hh5
    have hs1 : ∀ W : World, Sem.run Try.prog (Instr.slice 22 (.slice A0 l0.length c0) none (some (.int .i64 (K : Int))) none) W = .ok (.slice A0 K c0) W := cut_to 22 5 .i64 Try.underlying22 hi5 A0 l0.length c0 (K : Int) (by omega) (by omega) HC0.out
    obtain ⟨A2, hA2⟩ : ∃ A2, A2 = (if c0 = K then A0 else A0.map (·.add (K * 1))) := ⟨_, rfl⟩
    have hs2 : ∀ W : World, Sem.run Try.prog (Instr.slice 22 (.slice A0 l0.length c0) (some (.int .i64 (K : Int))) none none) W = .ok (.slice A2 (l0.length - K) (c0 - K)) W := by
      rw [hA2]; exact cut_from 22 5 .i64 Try.underlying22 hi5 1 hh5.2.1 A0 l0.length c0 (K : Int) (by omega) (by omega)
    have HT1 : Aside0 (Kd.C (Kd.int .u8) w A0 (l0.take K).length (l0.take K)) := ⟨Kd.C_take HR0.out hKl⟩
    have HT2 : Aside0 (Kd.C (Kd.int .u8) w A2 (l0.drop K).length (l0.drop K)) := ⟨by rw [hA2]; exact Kd.C_drop HR0.out hKl HC0.out⟩
    have HL1 : Aside0 (K = (l0.take K).length) := ⟨by simp; omega⟩
    have HL2 : Aside0 (l0.length - K = (l0.drop K).length) := ⟨by simp⟩
    obtain ⟨s1, hs1'⟩ : ∃ s, s = U (cSum ((l0.take K).map u8)) := ⟨_, rfl⟩
    obtain ⟨s2, hs2'⟩ : ∃ s, s = U (cSum ((l0.drop K).map u8)) := ⟨_, rfl⟩
    obtain ⟨s3, hs3'⟩ : ∃ s, s = U (cSum (l0.map u8)) := ⟨_, rfl⟩
    have hj : crc_Join.f ((l0.length - K) + 40) s1 s2 ((l0.length : Int) - (K : Int)) = some (s3, 0) := by
      have := join_f ((l0.take K).map u8) ((l0.drop K).map u8) (by simp; omega)
      rw [← List.map_append, List.take_append_drop, ← hs1', ← hs2', ← hs3', List.length_map, List.length_drop, Int.ofNat_sub hKl] at this
      exact this
    have HJ := Aside0.mk hj
    have H1 := Aside0.mk hs1'
    have H2 := Aside0.mk hs2'
    have H3 := Aside0.mk hs3'
    have c8 : (s3 == s3) = true := beq_self_eq_true _
    have H12 : Aside0 (U (cSum ((l0.take K ++ l0.drop K).map u8)) = s3) := ⟨by rw [List.take_append_drop, ← H3.out]⟩
    have HY1 := Aside0.mk (HX0.out.take K)
    have HY2 := Aside0.mk (HX0.out.drop K)
    have hsub : IntKind.i64.wrap ((l0.length : Int) - (K : Int)) = (l0.length : Int) - (K : Int) := by rw [IntKind.wrap_i64]; omega
    have hsubw : wrap64 ((l0.length : Int) - (K : Int)) = (l0.length : Int) - (K : Int) := by unfold wrap64; omega
    rw [← hs3']
    clear hj hs1' hs2' hs3' hA2 hh5 hK hx0 ha0 ha1 c4 hKl c4b0 c4b1
    go_region_held3 (fun W => Below w.heap.size w W) (first | exact HB.out | exact (by repeat (first | exact HB.out | apply below_alloc | apply pw_below_drewN | apply below_drew1))) (first
      | (go_at_call 9; refine (sum_at1 (A0 := A0) (c0 := c0) (n := K) (l0 := l0.take K) ?h2 HL1.out (Kd.C_below HT1.out ?hB) HY1.out).mono ?_; (case h2 => ((try simp only [heap_drew']); first | exact heap_alloc2_new _ _ _ | exact heap_alloc_new _ _ | (rw [heap_alloc_old _ _ _ (by simp)]; exact heap_alloc_new _ _))); (case hB => repeat (first | exact HB.out | apply below_alloc | apply pw_below_drewN | apply below_drew1)); rw [← H1.out]; rintro e wa ⟨rfl, hb⟩; have HBa := Aside0.mk hb; have n1_ := Aside0.mk (below_step (by repeat (first | exact HB.out | apply below_alloc | apply pw_below_drewN | apply below_drew1)) hb); clear HB; have HB := n1_; clear n1_; clear hb)
      | (go_at_call 9; refine (sum_at1 (A0 := A2) (c0 := c0 - K) (n := l0.length - K) (l0 := l0.drop K) ?h2 HL2.out (Kd.C_below HT2.out ?hB) HY2.out).mono ?_; (case h2 => ((try simp only [heap_drew']); first | exact heap_alloc_new _ _ | exact heap_alloc2_new _ _ _ | (refine (HBa.out.block _ (by first | (simp [heap_drew']; done) | (simp [heap_drew']; omega))).trans ?_; (try simp only [heap_drew']); first | exact heap_alloc2_new _ _ _ | exact heap_alloc_new _ _ | (rw [heap_alloc_old _ _ _ (by simp)]; exact heap_alloc_new _ _)))); (case hB => repeat (first | exact HB.out | apply below_alloc | apply pw_below_drewN | apply below_drew1)); rw [← H2.out]; rintro e wb ⟨rfl, hb⟩; have n1_ := Aside0.mk (below_step (by repeat (first | exact HB.out | apply below_alloc | apply pw_below_drewN | apply below_drew1)) hb); clear HB; have HB := n1_; clear n1_; clear hb)
      | (go_at_call 14; refine (crc_Join.calls _ _ _ _ _ _ _ HJ.out).mono ?_; rintro e wc ⟨rfl, ⟨nd, rfl⟩⟩)
      | fail)
    all_goals
      go_upto_region 7 with (fail)
      go_region_held3 (fun W => Below w.heap.size w W) (first | exact HB.out | exact (by repeat (first | exact HB.out | apply below_alloc | apply pw_below_drewN | apply below_drew1))) (first
        | (go_at_call 9; refine (sum_at2 (A0 := A0) (c0 := c0) (n0 := K) (l0 := l0.take K) (A1 := A2) (c1 := c0 - K) (n1 := l0.length - K) (l1 := l0.drop K) ?h2 HL1.out HL2.out (Kd.C_below HT1.out ?hB) (Kd.C_below HT2.out ?hB2) HY1.out HY2.out).mono ?_; (case h2 => ((try simp only [heap_drew']); exact heap_alloc_new _ _)); (case hB => repeat (first | exact HB.out | apply below_alloc | apply pw_below_drewN | apply below_drew1)); (case hB2 => repeat (first | exact HB.out | apply below_alloc | apply pw_below_drewN | apply below_drew1)); rw [H12.out]; rintro e wd ⟨rfl, hb⟩; have n1_ := Aside0.mk (below_step (by repeat (first | exact HB.out | apply below_alloc | apply pw_below_drewN | apply below_drew1)) hb); clear HB; have HB := n1_; clear n1_; clear hb)
        | fail)
    all_goals go_wp2
    all_goals (go_ret; exact ⟨rfl, HB.out⟩)
end Go.Proofs.Ythnnikhkmpafjaa
