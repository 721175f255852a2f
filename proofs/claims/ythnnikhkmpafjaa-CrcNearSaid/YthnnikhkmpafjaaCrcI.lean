/-
  CrcNear's own walk. No statement is proved here.
-/
import Derived.Test.YthnnikhkmpafjaaCrcH
import Derived.Test.YthnnikhkmpafjaaCrcN
import Derived.Deep.RegionLaw
namespace Go.Proofs.Ythnnikhkmpafjaa
open Go.RowKit Go.Shelf Go.Proofs.Ythnnikhkmpafjaa.PAll Go.Proofs.YthnnikhkmpafjaaW.PrintWords Go.Proofs.YthnnikhkmpafjaaW.PrintLast Go.Proofs.YthnnikhkmpafjaaW.PrintMore
set_option maxHeartbeats 8000000 in
set_option maxRecDepth 100000 in
theorem near_any (A0 : Option Addr) (c0 : Nat) (l0 : List Int) (a1 t0 t1 t2 t3 : Int) (w : World) (hr0 : Kd.C (Kd.int .u8) w A0 l0.length l0) (hc0 : l0.length ≤ c0) (hx0 : Byt l0) (ha0 : 0 ≤ a1) (ha1 : a1 < 65536) (hT : Byt [t0, t1, t2, t3]) :
    Calls Try.prog 4 #[.slice A0 l0.length c0, .int .u16 a1, .agg #[.int .u8 t0, .int .u8 t1, .int .u8 t2, .int .u8 t3]] w fun e w' => e = .returned (.bool true) ∧ Below w.heap.size w w' := by
  go_enter Try.func4, Try.ntmps4
  go_upto_region 1 with (fail)
  have hb0 : Below w.heap.size w (w.alloc (.cells #[.int .u8 t0, .int .u8 t1, .int .u8 t2, .int .u8 t3] 28)) := (Below.refl _ w).alloc (Nat.le_refl _) _
  have hc4 : (w.alloc (.cells #[.int .u8 t0, .int .u8 t1, .int .u8 t2, .int .u8 t3] 28)).heap[w.heap.size]? = some (.cells #[.int .u8 t0, .int .u8 t1, .int .u8 t2, .int .u8 t3] 28 (0, 0)) := heap_alloc_new _ _
  have hsz : w.heap.size < (w.alloc (.cells #[.int .u8 t0, .int .u8 t1, .int .u8 t2, .int .u8 t3] 28)).heap.size := by simp
  generalize w.alloc (.cells #[.int .u8 t0, .int .u8 t1, .int .u8 t2, .int .u8 t3] 28) = w1 at hb0 hc4 hsz ⊢
  have HB0 := Aside0.mk hb0
  have HC4 := Aside0.mk hc4
  have HSZ := Aside0.mk hsz
  have HR0 := Aside0.mk (Kd.C_below hr0 hb0)
  have HC0 := Aside0.mk hc0
  have HB := Aside0.mk (Below.refl w1.heap.size w1)
  have HX0 := Aside0.mk hx0
  have HT := Aside0.mk hT
  generalize hg : w.heap.size = g at HB0 HC4 HSZ ⊢
  clear hr0 hc0 hb0 hc4 hsz hx0 hT
  have fin : ∀ W : World, Below w1.heap.size w1 W → Below w.heap.size w W := fun W h => by rw [hg]; exact HB0.out.trans (h.mono (Nat.le_of_lt HSZ.out))
  by_cases c3 : (l0.length : Int) = 0
  · have c3b0 : ((l0.length : Int) == 0) = true := beq_iff_eq.mpr c3
    have c3b2 : l0 = [] := List.length_eq_zero_iff.1 (by omega)
    go_wp2_with (go_at_call 11; with_reducible refine (alive_any _).mono ?_; rintro e w8 ⟨rfl, hb8⟩)
    go_ret
    exact ⟨rfl, fin _ hb8⟩
  · have c3b0 : ((l0.length : Int) == 0) = false := beq_eq_false_iff_ne.mpr c3
    have c3b1 : ((l0.length : Int) != 0) = true := bne_iff_ne.mpr c3
    have c3b2 : ¬ (l0 = []) := fun h_ => c3 (by rw [h_]; rfl)
    by_cases c4 : (l0.length : Int) > 3000
    · have c4b0 : decide (3000 < (l0.length : Int)) = true := decide_eq_true c4
      have c4b1 : decide (3000 < l0.length) = true := decide_eq_true (by omega)
      go_wp2_with (go_at_call 11; with_reducible refine (alive_any _).mono ?_; rintro e w8 ⟨rfl, hb8⟩)
      go_ret
      exact ⟨rfl, fin _ hb8⟩
    · have c4b0 : decide (3000 < (l0.length : Int)) = false := decide_eq_false c4
      have c4b1 : decide (3000 < l0.length) = false := decide_eq_false (by omega)
      obtain ⟨y, hy⟩ : ∃ y_ : List Int, y_ = (([] : List Int) ++ l0) := ⟨_, rfl⟩
      have Ny := Aside0.mk hy
      have LMc : Aside0 (([] : List Int).length + l0.length < 140737488355328) := ⟨by simp; omega⟩
      obtain ⟨K, hK⟩ : ∃ K : Nat, (K : Int) = a1 % (l0.length : Int) := ⟨(a1 % (l0.length : Int)).toNat, by have := Int.emod_nonneg a1 c3; omega⟩
      have hKl : K < l0.length := by have := Int.emod_lt_of_pos a1 (show (0 : Int) < (l0.length : Int) by omega); omega
      have HK := Aside0.mk hK
      clear hK
      go_wp2_with (first | (go_at_call 11; with_reducible refine (alive_any _).mono ?_; rintro e w8 ⟨rfl, hb⟩; have n1_ := Aside0.mk (below_step HB.out hb); clear HB; have HB := n1_; clear n1_; clear hb) | ((with_reducible refine gate_builtin (b := .append) (xs := #[.tmp 25, .tmp 26]) rfl ?_); (try (refine gate_guard (by rfl) ?_; dsimp only)); at_builtin; refine Kd.R_append_rows (Kd.int .u8) (w0 := w1) w1.heap.size rfl (.tmp 25) (.tmp 26) 22 5 (.int .u8 0) 1 rfl Try.underlying22 info5 rfl (by decide) (by omega) (.slice none 0 0) ([] : List Int) l0 _ _ _ (fun _ => True) (fun _ => False) rfl rfl ?aO ?aR (fun _ _ h => h) (fun _ h => h.elim) ?aF ?aB ?aS ?aL ?_; (case aR => repeat (first | exact (Kd.C_below HR0.out HB.out) | (with_reducible refine Kd.C_alloc ?_ _) | (with_reducible refine Kd.C_drewN ?_ _) | (with_reducible refine Kd.C_drew ?_))); (case aB => exact (by repeat (first | (with_reducible first | exact HB.out | apply below_alloc | apply pw_below_drewN | apply below_drew1) | exact HB.out))); (case aF => exact (fun _ _ => trivial)); (case aO => exact ((Kd.R_nil _ _ _ _ (fun _ => True)))); (case aS => exact (below_size (by repeat (first | (with_reducible first | exact HB.out | apply below_alloc | apply pw_below_drewN | apply below_drew1) | exact HB.out)))); (case aL => have := LMc.out; omega); intro v109 w12 ho hb hg hat; rw [← Ny.out] at ho; have n0_ := Aside0.mk (hb); have n1_ := Aside0.mk (ho); clear HB; have HB := n0_; have HO8 := n1_; clear n0_ n1_; clear ho hb hg hat))
      rw [← HK.out]
      have HO9 : Aside0 (Kd.R (Kd.int .u8) 5 w12 w1.heap.size (fun _ => True) v109 (nearL l0 [t0, t1, t2, t3] K 0)) := ⟨by have := Ny.out; simp only [List.nil_append] at this; rw [← this]; exact HO8.out⟩
      clear HO8
      go_loopg [10] 5 (fun kq v10 w' => ∃ (i : Nat), v10 = .int .i64 (i : Int) ∧ Aside0 (i + kq = 5 ∧ i ≤ 4 ∧ K + i ≤ l0.length) ∧ Aside0 (Kd.R (Kd.int .u8) 5 w' w1.heap.size (fun _ => True) v109 (nearL l0 [t0, t1, t2, t3] K i)) ∧ Aside0 (Below w1.heap.size w1 w'))
      case atStart => exact ⟨0, rfl, ⟨by omega⟩, HO9, HB⟩
      case round =>
        obtain ⟨i, rfl, HI, HO_8, HB⟩ := hrel
        cases gk with
        | zero => exact absurd HI.out (by omega)
        | succ k2 =>
          have hi := HI.out
          have hlen := nearL_length l0 [t0, t1, t2, t3] K i
          by_cases c13 : (i : Int) < 4
          · have c13b0 : decide ((i : Int) < 4) = true := decide_eq_true c13
            by_cases c14 : ((K : Int) + (i : Int)) < (l0.length : Int)
            · have c14b0 : decide (((K : Int) + (i : Int)) < ((nearL l0 [t0, t1, t2, t3] K i).length : Int)) = true := decide_eq_true (by omega)
              have e1 : wrap64 ((K : Int) + (i : Int)) = (K : Int) + (i : Int) := by unfold wrap64; omega
              have e2 : IntKind.i64.wrap ((K : Int) + (i : Int)) = (K : Int) + (i : Int) := by rw [IntKind.wrap_i64]; omega
              obtain ⟨Ao, co, eo⟩ := Kd.R_slice HO_8.out
              subst eo
              try go_wp2
              have n0_ := Aside0.mk (Kd.R_drew HO_8.out)
              have HBo := HB
              have n1_ := Aside0.mk (below_drew1 HB.out)
              clear HO_8
              clear HB
              have HO_8 := n0_
              have HB := n1_
              clear n0_ n1_
              obtain ⟨ji, hji⟩ : ∃ j : Int, (K : Int) + (i : Int) = j := ⟨_, rfl⟩
              rw [hji] at e1 e2
              have p17 : 0 ≤ ji := by omega
              have q17 : ji < ((nearL l0 [t0, t1, t2, t3] K i).length : Int) := by omega
              obtain ⟨go17, co17, eo17, gb17, gl17, cl17, HG17⟩ := Kd.R_form HO_8.out (by omega)
              (first | cases eo17 | (injection eo17 with ea_ en_ ec_; (first | subst ea_ | (injection ea_ with ea_; subst ea_)); subst ec_; clear en_))
              obtain ⟨hx17, hf17⟩ := Kd.R_celln 0 HO_8.out ji p17 q17
              have HP20 := Kd.R_putn HO_8.out ji (Go.bits .xor .u8 (rd (nearL l0 [t0, t1, t2, t3] K i) ji) (rd [t0, t1, t2, t3] (i : Int)))
              have hr : (rdOf 0 (nearL l0 [t0, t1, t2, t3] K i) ji) = rd (nearL l0 [t0, t1, t2, t3] K i) ji := rfl
              rw [hr] at hx17
              have hc : wr.drew.cell? ⟨g, i, none⟩ = some (.int .u8 (rd [t0, t1, t2, t3] (i : Int))) := by
                have h4 : wr.drew.heap[g]? = some (.cells #[.int .u8 t0, .int .u8 t1, .int .u8 t2, .int .u8 t3] 28 (0, 0)) := by rw [HB.out.block g HSZ.out]; exact HC4.out
                rw [cell_of_row _ _ _ _ _ _ h4]
                have : i = 0 ∨ i = 1 ∨ i = 2 ∨ i = 3 := by omega
                rcases this with rfl | rfl | rfl | rfl <;> rfl
              have hne : (g : Nat) ≠ go17 := by have := HSZ.out; omega
              have p17' := eq_true p17
              have q17' := eq_true q17
              have i0 : (0 : Int) ≤ (i : Int) := by omega
              have i4 : (i : Int) < 4 := by omega
              have HJI := Aside0.mk hji
              have HC14 : Aside0 (K + (i + 1) ≤ l0.length) := ⟨by omega⟩
              have HLEN := Aside0.mk hlen
              clear c14 c14b0 hlen
              have NX : Aside0 ((nearL l0 [t0, t1, t2, t3] K i).set ji.toNat (Go.bits .xor .u8 (rd (nearL l0 [t0, t1, t2, t3] K i) ji) (rd [t0, t1, t2, t3] (i : Int))) = nearL l0 [t0, t1, t2, t3] K (i + 1)) := ⟨by rw [← hji, show (K : Int) + (i : Int) = ((K + i : Nat) : Int) by omega]; rfl⟩
              have GB := Aside0.mk gb17
              generalize rd [t0, t1, t2, t3] (i : Int) = tv at hc HP20 NX
              generalize rd (nearL l0 [t0, t1, t2, t3] K i) ji = xv at hx17 HP20 NX
              have HPA := Aside0.mk HP20
              clear HP20
              have e9 : IntKind.i64.wrap ((i : Int) + 1) = (i : Int) + 1 := by rw [IntKind.wrap_i64]; omega
              go_region_law (fail)
              all_goals
                try go_wp2
                go_roundg k2
                case measure => omega
                case rel => exact ⟨i + 1, by simp, ⟨by omega, by omega, HC14.out⟩, ⟨by rw [← NX.out]; exact HPA.out⟩, ⟨below_drew1 (below_set HBo.out GB.out)⟩⟩
            · have c14b0 : decide (((K : Int) + (i : Int)) < ((nearL l0 [t0, t1, t2, t3] K i).length : Int)) = false := decide_eq_false (by omega)
              obtain ⟨Ao, co, eo⟩ := Kd.R_slice HO_8.out
              subst eo
              try go_wp2
              have HCC : Aside0 (Kd.C (Kd.int .u8) wr Ao (nearL l0 [t0, t1, t2, t3] K i).length (nearL l0 [t0, t1, t2, t3] K i)) := ⟨(Kd.R_reads' HO_8.out).2.2⟩
              have HCB : Aside0 (Kd.C (Kd.int .u8) wr A0 l0.length l0) := ⟨Kd.C_below HR0.out HB.out⟩
              have HBr := HB
              obtain ⟨c, hcN⟩ : ∃ c, c = nearL l0 [t0, t1, t2, t3] K i := ⟨_, rfl⟩
              rw [← hcN] at HCC hlen
              have HD := Aside0.mk (Below.refl wr.heap.size wr)
              have hsv1 : ∀ W : World, Below wr.heap.size wr W → Sem.run Try.prog (convert 22 9 (.slice Ao l0.length co)) W = .ok (.string (strOfNums c)) W := fun W h => by
                have := Kd.C_string (P := Try.prog) (A := Ao) (c := co) Try.underlying22 Try.underlying5 Try.underlying9 (Kd.C_below HCC.out h)
                rw [hlen] at this; exact this
              have hsv2 : ∀ W : World, Below wr.heap.size wr W → Sem.run Try.prog (convert 22 9 (.slice A0 l0.length c0)) W = .ok (.string (strOfNums l0)) W := fun W h => Kd.C_string (P := Try.prog) (A := A0) (c := c0) Try.underlying22 Try.underlying5 Try.underlying9 (Kd.C_below HCB.out h)
              have HLN : Aside0 (l0.length = c.length) := ⟨hlen.symm⟩
              have HYC : Aside0 (Byt c) := ⟨by rw [hcN]; exact nearL_byt HX0.out K i⟩
              have HLAW : Aside0 (((U (cSum (c.map u8)) == U (cSum (l0.map u8))) == ((strOfNums c).toList == (strOfNums l0).toList)) = true) := ⟨by rw [hcN]; exact near_law l0 _ K i HX0.out HI.out.2.1 HI.out.2.2⟩
              clear hlen
              go_region_held3 (fun W => Below wr.heap.size wr W) (first | exact HD.out | exact (by repeat (first | exact HD.out | apply below_alloc | apply pw_below_drewN | apply below_drew1))) (first
                | (go_at_call 9; refine (sum_at1 (A0 := Ao) (c0 := co) (n := l0.length) (l0 := c) ?h2 HLN.out (Kd.C_below HCC.out ?hB) HYC.out).mono ?_; (case h2 => ((try simp only [heap_drew']); first | exact heap_alloc_new _ _ | exact heap_alloc2_new _ _ _ | (rw [heap_alloc_old _ _ _ (by simp)]; exact heap_alloc_new _ _))); (case hB => repeat (first | exact HD.out | apply below_alloc | apply pw_below_drewN | apply below_drew1)); rintro e wa ⟨rfl, hb⟩; have HBa := Aside0.mk hb; have n1_ := Aside0.mk (below_step (by repeat (first | exact HD.out | apply below_alloc | apply pw_below_drewN | apply below_drew1)) hb); clear HD; have HD := n1_; clear n1_; clear hb)
                | (go_at_call 9; refine (sum_at1 (A0 := A0) (c0 := c0) (n := l0.length) (l0 := l0) ?h2 rfl (Kd.C_below HCB.out ?hB) HX0.out).mono ?_; (case h2 => ((try simp only [heap_drew']); first | exact heap_alloc_new _ _ | exact heap_alloc2_new _ _ _ | (refine (HBa.out.block _ (by first | (simp [heap_drew']; done) | (simp [heap_drew']; omega))).trans ?_; (try simp only [heap_drew']); first | exact heap_alloc2_new _ _ _ | exact heap_alloc_new _ _ | (rw [heap_alloc_old _ _ _ (by simp)]; exact heap_alloc_new _ _)))); (case hB => repeat (first | exact HD.out | apply below_alloc | apply pw_below_drewN | apply below_drew1)); rintro e wb ⟨rfl, hb⟩; have n1_ := Aside0.mk (below_step (by repeat (first | exact HD.out | apply below_alloc | apply pw_below_drewN | apply below_drew1)) hb); clear HD; have HD := n1_; clear n1_; clear hb)
                | fail)
              all_goals
                go_wp2
                go_ret
                exact ⟨congrArg (fun b => Ending.returned (Value.bool b)) (near_law l0 [t0, t1, t2, t3] K i HX0.out HI.out.2.1 HI.out.2.2), fin _ (HBr.out.trans (HD.out.mono HBr.out.size))⟩
          · have c13b0 : decide ((i : Int) < 4) = false := decide_eq_false c13
            obtain ⟨Ao, co, eo⟩ := Kd.R_slice HO_8.out
            subst eo
            try go_wp2
            have HCC : Aside0 (Kd.C (Kd.int .u8) wr Ao (nearL l0 [t0, t1, t2, t3] K i).length (nearL l0 [t0, t1, t2, t3] K i)) := ⟨(Kd.R_reads' HO_8.out).2.2⟩
            have HCB : Aside0 (Kd.C (Kd.int .u8) wr A0 l0.length l0) := ⟨Kd.C_below HR0.out HB.out⟩
            have HBr := HB
            obtain ⟨c, hcN⟩ : ∃ c, c = nearL l0 [t0, t1, t2, t3] K i := ⟨_, rfl⟩
            rw [← hcN] at HCC hlen
            have HD := Aside0.mk (Below.refl wr.heap.size wr)
            have hsv1 : ∀ W : World, Below wr.heap.size wr W → Sem.run Try.prog (convert 22 9 (.slice Ao l0.length co)) W = .ok (.string (strOfNums c)) W := fun W h => by
              have := Kd.C_string (P := Try.prog) (A := Ao) (c := co) Try.underlying22 Try.underlying5 Try.underlying9 (Kd.C_below HCC.out h)
              rw [hlen] at this; exact this
            have hsv2 : ∀ W : World, Below wr.heap.size wr W → Sem.run Try.prog (convert 22 9 (.slice A0 l0.length c0)) W = .ok (.string (strOfNums l0)) W := fun W h => Kd.C_string (P := Try.prog) (A := A0) (c := c0) Try.underlying22 Try.underlying5 Try.underlying9 (Kd.C_below HCB.out h)
            have HLN : Aside0 (l0.length = c.length) := ⟨hlen.symm⟩
            have HYC : Aside0 (Byt c) := ⟨by rw [hcN]; exact nearL_byt HX0.out K i⟩
            have HLAW : Aside0 (((U (cSum (c.map u8)) == U (cSum (l0.map u8))) == ((strOfNums c).toList == (strOfNums l0).toList)) = true) := ⟨by rw [hcN]; exact near_law l0 _ K i HX0.out HI.out.2.1 HI.out.2.2⟩
            clear hlen
            go_region_held3 (fun W => Below wr.heap.size wr W) (first | exact HD.out | exact (by repeat (first | exact HD.out | apply below_alloc | apply pw_below_drewN | apply below_drew1))) (first
              | (go_at_call 9; refine (sum_at1 (A0 := Ao) (c0 := co) (n := l0.length) (l0 := c) ?h2 HLN.out (Kd.C_below HCC.out ?hB) HYC.out).mono ?_; (case h2 => ((try simp only [heap_drew']); first | exact heap_alloc_new _ _ | exact heap_alloc2_new _ _ _ | (rw [heap_alloc_old _ _ _ (by simp)]; exact heap_alloc_new _ _))); (case hB => repeat (first | exact HD.out | apply below_alloc | apply pw_below_drewN | apply below_drew1)); rintro e wa ⟨rfl, hb⟩; have HBa := Aside0.mk hb; have n1_ := Aside0.mk (below_step (by repeat (first | exact HD.out | apply below_alloc | apply pw_below_drewN | apply below_drew1)) hb); clear HD; have HD := n1_; clear n1_; clear hb)
              | (go_at_call 9; refine (sum_at1 (A0 := A0) (c0 := c0) (n := l0.length) (l0 := l0) ?h2 rfl (Kd.C_below HCB.out ?hB) HX0.out).mono ?_; (case h2 => ((try simp only [heap_drew']); first | exact heap_alloc_new _ _ | exact heap_alloc2_new _ _ _ | (refine (HBa.out.block _ (by first | (simp [heap_drew']; done) | (simp [heap_drew']; omega))).trans ?_; (try simp only [heap_drew']); first | exact heap_alloc2_new _ _ _ | exact heap_alloc_new _ _ | (rw [heap_alloc_old _ _ _ (by simp)]; exact heap_alloc_new _ _)))); (case hB => repeat (first | exact HD.out | apply below_alloc | apply pw_below_drewN | apply below_drew1)); rintro e wb ⟨rfl, hb⟩; have n1_ := Aside0.mk (below_step (by repeat (first | exact HD.out | apply below_alloc | apply pw_below_drewN | apply below_drew1)) hb); clear HD; have HD := n1_; clear n1_; clear hb)
              | fail)
            all_goals
              go_wp2
              go_ret
              exact ⟨congrArg (fun b => Ending.returned (Value.bool b)) (near_law l0 [t0, t1, t2, t3] K i HX0.out HI.out.2.1 HI.out.2.2), fin _ (HBr.out.trans (HD.out.mono HBr.out.size))⟩
end Go.Proofs.Ythnnikhkmpafjaa
