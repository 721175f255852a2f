/-
  MemNames' own walk. No statement is proved here.
-/
import Derived.Test.YtidojlacnamabaaMemG
namespace Go.Proofs.Ytidojlacnamabaa
open Go.RowKit Go.Proofs.Ytidojlacnamabaa.PAll Go.Proofs.YtidojlacnamabaaW.PrintWords Go.Proofs.YtidojlacnamabaaW.PrintLast Go.Proofs.YtidojlacnamabaaW.PrintMore
set_option linter.unusedVariables false
theorem load_3 : memLoadF 40 true 1 65536 [] 40 (-1) 1 = some (0, 4, 0) := by decide +kernel
theorem grow_1 : memGrowF 40 true 1 65536 [] 1 = some (true, 2, 65536, [], 1, 0) := by decide +kernel
theorem grow_2 : memGrowF 40 true 1 65536 [] 65536 = some (true, 1, 65536, [], -1, 0) := by decide +kernel
theorem grow_3 : memGrowF 40 true 1 65536 [] (-1) = some (true, 1, 65536, [], -1, 0) := by decide +kernel
theorem new_2 : mem_New.f 2 1 true = some (false, 0, 0, [], 2) := by decide +kernel
set_option maxHeartbeats 8000000 in
set_option maxRecDepth 100000 in
theorem memNames_any (w : World) : Calls Try.prog 7 #[] w fun e w' => e = .returned (.bool true) ∧ Below w.heap.size w w' := by
  have HB := Aside0.mk (Below.refl w.heap.size w)
  go_enter Try.func7, Try.ntmps7
  go_upto_region 2 with (first | (go_at_call 10; refine (mem_New.calls _ _ _ _ _ _ _ _ _ new_1).mono ?_; rintro e w8 ⟨v3, rfl, ho, hb⟩; have m0_ := Aside0.mk (below_step HB.out hb); clear HB; have HB := m0_; clear m0_; obtain ⟨Ab, cb, rfl⟩ := Kd.R_slice ho; have HC := Aside0.mk (Kd.R_reads' ho).2.2; have HL := Aside0.mk (Kd.R_reads' ho).2.1; clear ho; clear hb) | fail)
  have m0_ := Aside0.mk (HB.out.alloc HB.out.size (.cells #[.bool true, .int .i64 1, .int .i64 65536, .slice Ab 0 cb] 26))
  have m1_ := Aside0.mk (Kd.C_alloc HC.out (.cells #[.bool true, .int .i64 1, .int .i64 65536, .slice Ab 0 cb] 26))
  clear HB HC
  have HB := m0_
  have HC := m1_
  clear m0_ m1_
  have HK : Aside0 ((w8.alloc (.cells #[.bool true, .int .i64 1, .int .i64 65536, .slice Ab 0 cb] 26)).heap[w8.heap.size]? = some (.cells #[.bool true, .int .i64 1, .int .i64 65536, .slice Ab 0 cb] 26 (0, 0))) := ⟨heap_alloc_new _ _⟩
  generalize w8.alloc (.cells #[.bool true, .int .i64 1, .int .i64 65536, .slice Ab 0 cb] 26) = w1 at HB HC HK ⊢
  generalize w8.heap.size = g at HK ⊢
  obtain ⟨k0, k1, k2, k3⟩ := blk4 HK.out
  go_upto_region 3 with (first | (go_at_call 20; refine (memLoad_calls 40 true 1 65536 Ab cb [] 40 (-1) 1 0 4 0 _ HC.out HL.out load_3).mono ?_; rintro e w9 ⟨rfl, hb⟩; have m0_ := Aside0.mk (below_step HB.out hb); have m1_ := Aside0.mk (Kd.C_below HC.out hb); have m2_ := Aside0.mk (blk_below HK.out hb); clear HB HC HK; have HB := m0_; have HC := m1_; have HK := m2_; clear m0_ m1_ m2_; clear hb) | fail)
  obtain ⟨k0, k1, k2, k3⟩ := blk4 HK.out
  go_upto_region 4 with (first | (go_at_call 25; refine (memGrow_calls 40 true 1 65536 Ab cb [] 1 _ _ _ _ _ _ _ HC.out HL.out grow_1).mono ?_; rintro e w10 ⟨v6, rfl, ho, hb⟩; have m0_ := Aside0.mk (below_step HB.out hb); have m1_ := Aside0.mk (Kd.C_below HC.out hb); have m2_ := Aside0.mk (blk_below HK.out hb); clear HB HC HK; have HB := m0_; have HC := m1_; have HK := m2_; clear m0_ m1_ m2_; obtain ⟨A6, c6, rfl⟩ := Kd.R_slice ho; have HC6 := Aside0.mk (Kd.R_reads' ho).2.2; have HL6 := Aside0.mk (Kd.R_reads' ho).2.1; clear ho; clear hb) | fail)
  have m0_ := Aside0.mk (HB.out.alloc HB.out.size (.cells #[.bool true, .int .i64 2, .int .i64 65536, .slice A6 0 c6] 26))
  have m1_ := Aside0.mk (Kd.C_alloc HC.out (.cells #[.bool true, .int .i64 2, .int .i64 65536, .slice A6 0 c6] 26))
  have m2_ := Aside0.mk (blk_alloc HK.out (.cells #[.bool true, .int .i64 2, .int .i64 65536, .slice A6 0 c6] 26))
  have m3_ := Aside0.mk (Kd.C_alloc HC6.out (.cells #[.bool true, .int .i64 2, .int .i64 65536, .slice A6 0 c6] 26))
  clear HB HC HK HC6
  have HB := m0_
  have HC := m1_
  have HK := m2_
  have HC6 := m3_
  clear m0_ m1_ m2_ m3_
  have HK6 : Aside0 ((w10.alloc (.cells #[.bool true, .int .i64 2, .int .i64 65536, .slice A6 0 c6] 26)).heap[w10.heap.size]? = some (.cells #[.bool true, .int .i64 2, .int .i64 65536, .slice A6 0 c6] 26 (0, 0))) := ⟨heap_alloc_new _ _⟩
  generalize w10.alloc (.cells #[.bool true, .int .i64 2, .int .i64 65536, .slice A6 0 c6] 26) = w20 at HB HC HK HC6 HK6 ⊢
  generalize w10.heap.size = g6 at HK6 ⊢
  obtain ⟨k0, k1, k2, k3⟩ := blk4 HK.out
  go_upto_region 5 with (first | (go_at_call 25; refine (memGrow_calls 40 true 1 65536 Ab cb [] 65536 _ _ _ _ _ _ _ HC.out HL.out grow_2).mono ?_; rintro e w11 ⟨v7, rfl, ho, hb⟩; have m0_ := Aside0.mk (below_step HB.out hb); have m1_ := Aside0.mk (Kd.C_below HC.out hb); have m2_ := Aside0.mk (blk_below HK.out hb); have m3_ := Aside0.mk (Kd.C_below HC6.out hb); have m4_ := Aside0.mk (blk_below HK6.out hb); clear HB HC HK HC6 HK6; have HB := m0_; have HC := m1_; have HK := m2_; have HC6 := m3_; have HK6 := m4_; clear m0_ m1_ m2_ m3_ m4_; obtain ⟨A7, c7, rfl⟩ := Kd.R_slice ho; have HC7 := Aside0.mk (Kd.R_reads' ho).2.2; have HL7 := Aside0.mk (Kd.R_reads' ho).2.1; clear ho; clear hb) | fail)
  have m0_ := Aside0.mk (HB.out.alloc HB.out.size (.cells #[.bool true, .int .i64 1, .int .i64 65536, .slice A7 0 c7] 26))
  have m1_ := Aside0.mk (Kd.C_alloc HC.out (.cells #[.bool true, .int .i64 1, .int .i64 65536, .slice A7 0 c7] 26))
  have m2_ := Aside0.mk (blk_alloc HK.out (.cells #[.bool true, .int .i64 1, .int .i64 65536, .slice A7 0 c7] 26))
  have m3_ := Aside0.mk (Kd.C_alloc HC6.out (.cells #[.bool true, .int .i64 1, .int .i64 65536, .slice A7 0 c7] 26))
  have m4_ := Aside0.mk (blk_alloc HK6.out (.cells #[.bool true, .int .i64 1, .int .i64 65536, .slice A7 0 c7] 26))
  have m5_ := Aside0.mk (Kd.C_alloc HC7.out (.cells #[.bool true, .int .i64 1, .int .i64 65536, .slice A7 0 c7] 26))
  clear HB HC HK HC6 HK6 HC7
  have HB := m0_
  have HC := m1_
  have HK := m2_
  have HC6 := m3_
  have HK6 := m4_
  have HC7 := m5_
  clear m0_ m1_ m2_ m3_ m4_ m5_
  have HK7 : Aside0 ((w11.alloc (.cells #[.bool true, .int .i64 1, .int .i64 65536, .slice A7 0 c7] 26)).heap[w11.heap.size]? = some (.cells #[.bool true, .int .i64 1, .int .i64 65536, .slice A7 0 c7] 26 (0, 0))) := ⟨heap_alloc_new _ _⟩
  generalize w11.alloc (.cells #[.bool true, .int .i64 1, .int .i64 65536, .slice A7 0 c7] 26) = w21 at HB HC HK HC6 HK6 HC7 HK7 ⊢
  generalize w11.heap.size = g7 at HK7 ⊢
  obtain ⟨k0, k1, k2, k3⟩ := blk4 HK.out
  go_upto_region 6 with (first | (go_at_call 25; refine (memGrow_calls 40 true 1 65536 Ab cb [] (-1) _ _ _ _ _ _ _ HC.out HL.out grow_3).mono ?_; rintro e w12 ⟨v8, rfl, ho, hb⟩; have m0_ := Aside0.mk (below_step HB.out hb); have m1_ := Aside0.mk (Kd.C_below HC.out hb); have m2_ := Aside0.mk (blk_below HK.out hb); have m3_ := Aside0.mk (Kd.C_below HC6.out hb); have m4_ := Aside0.mk (blk_below HK6.out hb); have m5_ := Aside0.mk (Kd.C_below HC7.out hb); have m6_ := Aside0.mk (blk_below HK7.out hb); clear HB HC HK HC6 HK6 HC7 HK7; have HB := m0_; have HC := m1_; have HK := m2_; have HC6 := m3_; have HK6 := m4_; have HC7 := m5_; have HK7 := m6_; clear m0_ m1_ m2_ m3_ m4_ m5_ m6_; obtain ⟨A8, c8, rfl⟩ := Kd.R_slice ho; have HC8 := Aside0.mk (Kd.R_reads' ho).2.2; have HL8 := Aside0.mk (Kd.R_reads' ho).2.1; clear ho; clear hb) | fail)
  have m0_ := Aside0.mk (HB.out.alloc HB.out.size (.cells #[.bool true, .int .i64 1, .int .i64 65536, .slice A8 0 c8] 26))
  have m1_ := Aside0.mk (Kd.C_alloc HC.out (.cells #[.bool true, .int .i64 1, .int .i64 65536, .slice A8 0 c8] 26))
  have m2_ := Aside0.mk (blk_alloc HK.out (.cells #[.bool true, .int .i64 1, .int .i64 65536, .slice A8 0 c8] 26))
  have m3_ := Aside0.mk (Kd.C_alloc HC6.out (.cells #[.bool true, .int .i64 1, .int .i64 65536, .slice A8 0 c8] 26))
  have m4_ := Aside0.mk (blk_alloc HK6.out (.cells #[.bool true, .int .i64 1, .int .i64 65536, .slice A8 0 c8] 26))
  have m5_ := Aside0.mk (Kd.C_alloc HC7.out (.cells #[.bool true, .int .i64 1, .int .i64 65536, .slice A8 0 c8] 26))
  have m6_ := Aside0.mk (blk_alloc HK7.out (.cells #[.bool true, .int .i64 1, .int .i64 65536, .slice A8 0 c8] 26))
  have m7_ := Aside0.mk (Kd.C_alloc HC8.out (.cells #[.bool true, .int .i64 1, .int .i64 65536, .slice A8 0 c8] 26))
  clear HB HC HK HC6 HK6 HC7 HK7 HC8
  have HB := m0_
  have HC := m1_
  have HK := m2_
  have HC6 := m3_
  have HK6 := m4_
  have HC7 := m5_
  have HK7 := m6_
  have HC8 := m7_
  clear m0_ m1_ m2_ m3_ m4_ m5_ m6_ m7_
  have HK8 : Aside0 ((w12.alloc (.cells #[.bool true, .int .i64 1, .int .i64 65536, .slice A8 0 c8] 26)).heap[w12.heap.size]? = some (.cells #[.bool true, .int .i64 1, .int .i64 65536, .slice A8 0 c8] 26 (0, 0))) := ⟨heap_alloc_new _ _⟩
  generalize w12.alloc (.cells #[.bool true, .int .i64 1, .int .i64 65536, .slice A8 0 c8] 26) = w22 at HB HC HK HC6 HK6 HC7 HK7 HC8 HK8 ⊢
  generalize w12.heap.size = g8 at HK8 ⊢
  obtain ⟨k0, k1, k2, k3⟩ := blk4 HK.out
  go_upto_region 7 with (first | (go_at_call 10; refine (mem_New.calls _ _ _ _ _ _ _ _ _ new_2).mono ?_; rintro e w13 ⟨v9, rfl, ho, hb⟩; have m0_ := Aside0.mk (below_step HB.out hb); have m1_ := Aside0.mk (Kd.C_below HC.out hb); have m2_ := Aside0.mk (blk_below HK.out hb); have m3_ := Aside0.mk (Kd.C_below HC6.out hb); have m4_ := Aside0.mk (blk_below HK6.out hb); have m5_ := Aside0.mk (Kd.C_below HC7.out hb); have m6_ := Aside0.mk (blk_below HK7.out hb); have m7_ := Aside0.mk (Kd.C_below HC8.out hb); have m8_ := Aside0.mk (blk_below HK8.out hb); clear HB HC HK HC6 HK6 HC7 HK7 HC8 HK8; have HB := m0_; have HC := m1_; have HK := m2_; have HC6 := m3_; have HK6 := m4_; have HC7 := m5_; have HK7 := m6_; have HC8 := m7_; have HK8 := m8_; clear m0_ m1_ m2_ m3_ m4_ m5_ m6_ m7_ m8_; obtain ⟨A9, c9, rfl⟩ := Kd.R_slice ho; have HC9 := Aside0.mk (Kd.R_reads' ho).2.2; have HL9 := Aside0.mk (Kd.R_reads' ho).2.1; clear ho; clear hb) | fail)
  have m0_ := Aside0.mk (HB.out.alloc HB.out.size (.cells #[.bool false, .int .i64 0, .int .i64 0, .slice A9 0 c9] 26))
  have m1_ := Aside0.mk (Kd.C_alloc HC.out (.cells #[.bool false, .int .i64 0, .int .i64 0, .slice A9 0 c9] 26))
  have m2_ := Aside0.mk (blk_alloc HK.out (.cells #[.bool false, .int .i64 0, .int .i64 0, .slice A9 0 c9] 26))
  have m3_ := Aside0.mk (Kd.C_alloc HC6.out (.cells #[.bool false, .int .i64 0, .int .i64 0, .slice A9 0 c9] 26))
  have m4_ := Aside0.mk (blk_alloc HK6.out (.cells #[.bool false, .int .i64 0, .int .i64 0, .slice A9 0 c9] 26))
  have m5_ := Aside0.mk (Kd.C_alloc HC7.out (.cells #[.bool false, .int .i64 0, .int .i64 0, .slice A9 0 c9] 26))
  have m6_ := Aside0.mk (blk_alloc HK7.out (.cells #[.bool false, .int .i64 0, .int .i64 0, .slice A9 0 c9] 26))
  have m7_ := Aside0.mk (Kd.C_alloc HC8.out (.cells #[.bool false, .int .i64 0, .int .i64 0, .slice A9 0 c9] 26))
  have m8_ := Aside0.mk (blk_alloc HK8.out (.cells #[.bool false, .int .i64 0, .int .i64 0, .slice A9 0 c9] 26))
  have m9_ := Aside0.mk (Kd.C_alloc HC9.out (.cells #[.bool false, .int .i64 0, .int .i64 0, .slice A9 0 c9] 26))
  clear HB HC HK HC6 HK6 HC7 HK7 HC8 HK8 HC9
  have HB := m0_
  have HC := m1_
  have HK := m2_
  have HC6 := m3_
  have HK6 := m4_
  have HC7 := m5_
  have HK7 := m6_
  have HC8 := m7_
  have HK8 := m8_
  have HC9 := m9_
  clear m0_ m1_ m2_ m3_ m4_ m5_ m6_ m7_ m8_ m9_
  have HK9 : Aside0 ((w13.alloc (.cells #[.bool false, .int .i64 0, .int .i64 0, .slice A9 0 c9] 26)).heap[w13.heap.size]? = some (.cells #[.bool false, .int .i64 0, .int .i64 0, .slice A9 0 c9] 26 (0, 0))) := ⟨heap_alloc_new _ _⟩
  generalize w13.alloc (.cells #[.bool false, .int .i64 0, .int .i64 0, .slice A9 0 c9] 26) = w23 at HB HC HK HC6 HK6 HC7 HK7 HC8 HK8 HC9 HK9 ⊢
  generalize w13.heap.size = g9 at HK9 ⊢
  clear k0 k1 k2 k3
  go_wp2_with (first | ((go_at_call 18; refine (alive_any _).mono ?_; rintro e w14 ⟨rfl, hb⟩; have m0_ := Aside0.mk (below_step HB.out hb); have m1_ := Aside0.mk (Kd.C_below HC.out hb); have m2_ := Aside0.mk (blk_below HK.out hb); have m3_ := Aside0.mk (Kd.C_below HC6.out hb); have m4_ := Aside0.mk (blk_below HK6.out hb); have m5_ := Aside0.mk (Kd.C_below HC7.out hb); have m6_ := Aside0.mk (blk_below HK7.out hb); have m7_ := Aside0.mk (Kd.C_below HC8.out hb); have m8_ := Aside0.mk (blk_below HK8.out hb); have m9_ := Aside0.mk (Kd.C_below HC9.out hb); have m10_ := Aside0.mk (blk_below HK9.out hb); clear HB HC HK HC6 HK6 HC7 HK7 HC8 HK8 HC9 HK9; have HB := m0_; have HC := m1_; have HK := m2_; have HC6 := m3_; have HK6 := m4_; have HC7 := m5_; have HK7 := m6_; have HC8 := m7_; have HK8 := m8_; have HC9 := m9_; have HK9 := m10_; clear m0_ m1_ m2_ m3_ m4_ m5_ m6_ m7_ m8_ m9_ m10_; clear hb); (obtain ⟨k0, k1, k2, k3⟩ := blk4 HK6.out); (obtain ⟨j0, j1, j2, j3⟩ := blk4 HK7.out)) | fail)
  go_ret
  exact ⟨rfl, HB.out⟩
end Go.Proofs.Ytidojlacnamabaa
