/-
  CrcDivides' own walk: the law builds lists of parts out of what comes in. No statement is proved here.
-/
import Derived.Test.YthnnikhkmpafjaaCrcE
import Derived.Test.YthnnikhkmpafjaaCrcSum
namespace Go.Proofs.Ythnnikhkmpafjaa
open Go.RowKit Go.Shelf Go.Proofs.Ythnnikhkmpafjaa.PAll Go.Proofs.YthnnikhkmpafjaaW.PrintWords Go.Proofs.YthnnikhkmpafjaaW.PrintLast Go.Proofs.YthnnikhkmpafjaaW.PrintMore
theorem sum_of1 (w1 : World) {A0 : Option Addr} {c0 : Nat} {l0 : List Int} (h : Kd.C (Kd.int .u8) w1 A0 l0.length l0) (hx : Byt l0) :
    Calls Try.prog 9 #[.slice (some ⟨w1.heap.size, 0, none⟩) 1 1] (w1.alloc (.cells #[.slice A0 l0.length c0] 22)) fun e w' => e = .returned (.int .u32 (U (cSum (l0.map u8)))) ∧ Below w1.heap.size w1 w' := by
  obtain ⟨W, hW⟩ : ∃ W, w1.alloc (.cells #[.slice A0 l0.length c0] 22) = W := ⟨_, rfl⟩
  have h2 : W.heap[w1.heap.size]? = some (.cells #[.slice A0 l0.length c0] 22 (0, 0)) := by rw [← hW]; exact heap_alloc_new w1 _
  have hs : W.heap.size = w1.heap.size + 1 := by rw [← hW]; simp
  have hB : Below w1.heap.size w1 W := by rw [← hW]; exact (Below.refl _ w1).alloc (Nat.le_refl _) _
  have hC : Kd.C (Kd.int .u8) W A0 l0.length l0 := by rw [← hW]; exact Kd.C_alloc h _
  rw [hW]
  have hP : Parts W.heap.size W (some ⟨w1.heap.size, 0, none⟩) [l0.map u8] := ⟨by simp, .inr ⟨_, 0, rfl, by omega, fun i hi => by
    obtain rfl : i = 0 := by simpa using hi
    exact ⟨_, by rw [cell_of_row W _ _ _ _ _ h2]; rfl, bytes_of_C hC hx⟩⟩⟩
  refine (sum_any _ 1 [l0.map u8] W hP).mono ?_
  rintro e w' ⟨rfl, hb⟩
  exact ⟨by simp, hB.trans (hb.mono (by omega))⟩
theorem sum_of2 (w1 : World) {A0 A1 : Option Addr} {c0 c1 : Nat} {l0 l1 : List Int} (h : Kd.C (Kd.int .u8) w1 A0 l0.length l0) (hx : Byt l0) (h1 : Kd.C (Kd.int .u8) w1 A1 l1.length l1) (hx1 : Byt l1) :
    Calls Try.prog 9 #[.slice (some ⟨w1.heap.size, 0, none⟩) 2 2] (w1.alloc (.cells #[.slice A0 l0.length c0, .slice A1 l1.length c1] 22)) fun e w' => e = .returned (.int .u32 (U (cSum ((l0 ++ l1).map u8)))) ∧ Below w1.heap.size w1 w' := by
  obtain ⟨W, hW⟩ : ∃ W, w1.alloc (.cells #[.slice A0 l0.length c0, .slice A1 l1.length c1] 22) = W := ⟨_, rfl⟩
  have h2 : W.heap[w1.heap.size]? = some (.cells #[.slice A0 l0.length c0, .slice A1 l1.length c1] 22 (0, 0)) := by rw [← hW]; exact heap_alloc_new w1 _
  have hs : W.heap.size = w1.heap.size + 1 := by rw [← hW]; simp
  have hB : Below w1.heap.size w1 W := by rw [← hW]; exact (Below.refl _ w1).alloc (Nat.le_refl _) _
  have hC : Kd.C (Kd.int .u8) W A0 l0.length l0 := by rw [← hW]; exact Kd.C_alloc h _
  have hC1 : Kd.C (Kd.int .u8) W A1 l1.length l1 := by rw [← hW]; exact Kd.C_alloc h1 _
  rw [hW]
  have hP : Parts W.heap.size W (some ⟨w1.heap.size, 0, none⟩) [l0.map u8, l1.map u8] := ⟨by simp, .inr ⟨_, 0, rfl, by omega, fun i hi => by
    have : i = 0 ∨ i = 1 := by simp at hi; omega
    rcases this with rfl | rfl
    · exact ⟨_, by rw [cell_of_row W _ _ _ _ _ h2]; rfl, bytes_of_C hC hx⟩
    · exact ⟨_, by rw [cell_of_row W _ _ _ _ _ h2]; rfl, bytes_of_C hC1 hx1⟩⟩⟩
  refine (sum_any _ 2 [l0.map u8, l1.map u8] W hP).mono ?_
  rintro e w' ⟨rfl, hb⟩
  exact ⟨by simp, hB.trans (hb.mono (by omega))⟩
set_option maxHeartbeats 8000000 in
set_option maxRecDepth 100000 in
theorem divides_any (A0 : Option Addr) (c0 : Nat) (l0 : List Int) (A1 : Option Addr) (c1 : Nat) (l1 : List Int) (w : World) (hr0 : Kd.C (Kd.int .u8) w A0 l0.length l0) (hc0 : l0.length ≤ c0) (hr1 : Kd.C (Kd.int .u8) w A1 l1.length l1) (hc1 : l1.length ≤ c1) (hx0 : Byt l0) (hx1 : Byt l1) :
    Calls Try.prog 3 #[.slice A0 l0.length c0, .slice A1 l1.length c1] w fun e w' => e = .returned (.bool true) ∧ Below w.heap.size w w' := by
  have HR0 := Aside0.mk hr0
  have HC0 := Aside0.mk hc0
  clear hr0 hc0
  have HR1 := Aside0.mk hr1
  have HC1 := Aside0.mk hc1
  clear hr1 hc1
  have HB := Aside0.mk (Below.refl w.heap.size w)
  go_enter Try.func3, Try.ntmps3
  by_cases c4 : (l0.length : Int) > 2000
  · have c4b0 : decide (2000 < (l0.length : Int)) = true := decide_eq_true c4
    have c4b1 : decide (2000 < l0.length) = true := decide_eq_true (by omega)
    go_wp2
    go_ret
    exact ⟨rfl, HB.out⟩
  · have c4b0 : decide (2000 < (l0.length : Int)) = false := decide_eq_false c4
    have c4b1 : decide (2000 < l0.length) = false := decide_eq_false (by omega)
    by_cases c5 : (l1.length : Int) > 2000
    · have c5b0 : decide (2000 < (l1.length : Int)) = true := decide_eq_true c5
      have c5b1 : decide (2000 < l1.length) = true := decide_eq_true (by omega)
      go_wp2
      go_ret
      exact ⟨rfl, HB.out⟩
    · have c5b0 : decide (2000 < (l1.length : Int)) = false := decide_eq_false c5
      have c5b1 : decide (2000 < l1.length) = false := decide_eq_false (by omega)
      obtain ⟨y141, hy141⟩ : ∃ y_ : List Int, y_ = (([] : List Int) ++ l0) := ⟨_, rfl⟩
      obtain ⟨y144, hy144⟩ : ∃ y_ : List Int, y_ = (y141 ++ l1) := ⟨_, rfl⟩
      obtain ⟨ka, hka⟩ := sum_f l0 hx0 (by omega)
      have hy : y144 = l0 ++ l1 := by rw [hy144, hy141]; simp
      obtain ⟨kb, hkb⟩ := sum_f y144 (by rw [hy]; intro x hx; exact (List.mem_append.1 hx).elim (hx0 x) (hx1 x)) (by rw [hy]; simp; omega)
      obtain ⟨sa, hsa⟩ : ∃ s, s = U (cSum (l0.map u8)) := ⟨_, rfl⟩
      obtain ⟨sb, hsb⟩ : ∃ s, s = U (cSum (y144.map u8)) := ⟨_, rfl⟩
      have Ny141 := Aside0.mk hy141
      have Ny144 := Aside0.mk hy144
      have LMc6 : Aside0 (([] : List Int).length + l0.length < 140737488355328) := ⟨by simp; omega⟩
      have LMc7 : Aside0 (y141.length + l1.length < 140737488355328) := ⟨by rw [hy141]; simp; omega⟩
      rw [← hsa] at hka
      rw [← hsb] at hkb
      have A8 := Aside0.mk hka
      have A9 := Aside0.mk hkb
      have c8 : (sa == sa) = true := beq_self_eq_true _
      have c9 : (sb == sb) = true := beq_self_eq_true _
      have HSa := Aside0.mk hsa
      have HSb : Aside0 (sb = U (cSum ((l0 ++ l1).map u8))) := ⟨by rw [hsb, hy]⟩
      have HX0 := Aside0.mk hx0
      have HX1 := Aside0.mk hx1
      clear hka hkb hy141 hy144 hy hsa hsb hx0 hx1
      have hcv10 := Kd.C_string (P := Try.prog) (A := A0) (c := c0) Try.underlying22 Try.underlying5 Try.underlying9 (Kd.C_below HR0.out HB.out)
      go_wp2_with (first
        | ((with_reducible refine gate_builtin (b := .append) (xs := #[.tmp 17, .tmp 18]) rfl ?_); (try (refine gate_guard (by rfl) ?_; dsimp only)); at_builtin; refine Kd.R_append_rows (Kd.int .u8) (w0 := w) w.heap.size rfl (.tmp 17) (.tmp 18) 22 5 (.int .u8 0) 1 rfl Try.underlying22 info5 rfl (by decide) (by omega) (.slice none 0 0) ([] : List Int) l0 _ _ _ (fun _ => True) (fun _ => False) rfl rfl ?aO ?aR (fun _ _ h => h) (fun _ h => h.elim) ?aF ?aB ?aS ?aL ?_; (case aR => repeat (first | exact (Kd.C_below HR0.out HB.out) | (with_reducible refine Kd.C_alloc ?_ _) | (with_reducible refine Kd.C_drewN ?_ _) | (with_reducible refine Kd.C_drew ?_))); (case aB => exact (by repeat (first | (with_reducible first | exact HB.out | apply below_alloc | apply pw_below_drewN | apply below_drew1) | exact HB.out))); (case aF => exact (fun _ _ => trivial)); (case aO => exact ((Kd.R_nil _ _ _ _ (fun _ => True)))); (case aS => exact (below_size (by repeat (first | (with_reducible first | exact HB.out | apply below_alloc | apply pw_below_drewN | apply below_drew1) | exact HB.out)))); (case aL => have := LMc6.out; omega); intro v142 w11 ho hb hg hat; rw [← Ny141.out] at ho; have n0_ := Aside0.mk (hb); have n1_ := Aside0.mk (ho); clear HB; have HB := n0_; have HO143 := n1_; clear n0_ n1_; clear ho hb hg hat)
        | ((with_reducible refine gate_builtin (b := .append) (xs := #[.tmp 20, .tmp 21]) rfl ?_); (try (refine gate_guard (by rfl) ?_; dsimp only)); at_builtin; refine Kd.R_append_rows (Kd.int .u8) (w0 := w) w.heap.size rfl (.tmp 20) (.tmp 21) 22 5 (.int .u8 0) 1 rfl Try.underlying22 info5 rfl (by decide) (by omega) v142 y141 l1 _ _ _ (fun _ => True) (fun _ => False) rfl rfl ?aO ?aR (fun _ _ h => h) (fun _ h => h.elim) ?aF ?aB ?aS ?aL ?_; (case aR => repeat (first | exact (Kd.C_below HR1.out HB.out) | (with_reducible refine Kd.C_alloc ?_ _) | (with_reducible refine Kd.C_drewN ?_ _) | (with_reducible refine Kd.C_drew ?_))); (case aB => exact (by repeat (first | (with_reducible first | exact HB.out | apply below_alloc | apply pw_below_drewN | apply below_drew1) | exact HB.out))); (case aF => exact (fun _ _ => trivial)); (case aO => exact (by (with_reducible repeat (first | apply Kd.R_alloc | apply Kd.R_drewN | apply Kd.R_drew)); exact HO143.out)); (case aS => exact (below_size (by repeat (first | (with_reducible first | exact HB.out | apply below_alloc | apply pw_below_drewN | apply below_drew1) | exact HB.out)))); (case aL => have := LMc7.out; omega); intro v145 w12 ho hb hg hat; rw [← Ny144.out] at ho; have n0_ := Aside0.mk (hb); have n1_ := Aside0.mk (ho); clear HB; clear HO143; have HB := n0_; have HO146 := n1_; clear n0_ n1_; clear ho hb hg hat)
        | (go_at_call 9; with_reducible refine (sum_nil _).mono ?_; rintro e w13 ⟨rfl, hb⟩; have n0_ := Aside0.mk (Kd.R_below HO146.out hb); have n1_ := Aside0.mk (below_step HB.out hb); clear HO146; clear HB; have HO146 := n0_; have HB := n1_; clear n0_ n1_; clear hb)
        | (go_at_call 9; with_reducible refine (sum_of1 _ (Kd.C_below HR0.out HB.out) HX0.out).mono ?_; rw [← HSa.out]; rintro e w14 ⟨rfl, hb⟩; have n0_ := Aside0.mk (Kd.R_below HO146.out hb); have n1_ := Aside0.mk (below_step HB.out hb); clear HO146; clear HB; have HO146 := n0_; have HB := n1_; clear n0_ n1_; clear hb)
        | (go_at_call 10; with_reducible refine (bytebarnref03_Sum.calls ka A0 c0 l0 sa _ (Kd.C_below HR0.out HB.out) HC0.out A8.out).mono ?_; rintro e w15 ⟨rfl, hb⟩; have n0_ := Aside0.mk (Kd.R_below HO146.out hb); have n1_ := Aside0.mk (below_step HB.out hb); clear HO146; clear HB; have HO146 := n0_; have HB := n1_; clear n0_ n1_; clear hb)
        | (go_at_call 9; with_reducible refine (sum_of2 _ (Kd.C_below HR0.out HB.out) HX0.out (Kd.C_below HR1.out HB.out) HX1.out).mono ?_; rw [← HSb.out]; rintro e w16 ⟨rfl, hb⟩; have n0_ := Aside0.mk (Kd.R_below HO146.out hb); have n1_ := Aside0.mk (below_step HB.out hb); clear HO146; clear HB; have HO146 := n0_; have HB := n1_; clear n0_ n1_; clear hb; obtain ⟨Ao14, co14, eo14⟩ := Kd.R_slice HO146.out; subst eo14)
        | (go_at_call 10; with_reducible refine (bytebarnref03_Sum.calls kb _ _ y144 sb _ (Kd.R_reads' HO146.out).2.2 (Kd.R_reads' HO146.out).2.1 A9.out).mono ?_; rintro e w17 ⟨rfl, hb⟩; have n1_ := Aside0.mk (below_step HB.out hb); clear HO146; clear HB; have HB := n1_; clear n1_; clear hb; have hcv16 := Kd.C_string (P := Try.prog) (A := A0) (c := c0) Try.underlying22 Try.underlying5 Try.underlying9 (Kd.C_below HR0.out HB.out)))
      go_ret
      exact ⟨by first | rfl | (simp; done), HB.out⟩
end Go.Proofs.Ythnnikhkmpafjaa
