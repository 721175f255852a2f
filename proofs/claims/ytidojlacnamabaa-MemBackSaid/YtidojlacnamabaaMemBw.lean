/-
  MemBack's own walk, way by way. No statement is proved here.
-/
import Derived.Test.YtidojlacnamabaaMemS
namespace Go.Proofs.Ytidojlacnamabaa
open Go.RowKit Go.Proofs.Ytidojlacnamabaa.PAll Go.Proofs.YtidojlacnamabaaW.PrintWords Go.Proofs.YtidojlacnamabaaW.PrintLast Go.Proofs.YtidojlacnamabaaW.PrintMore
set_option linter.unusedVariables false
set_option maxHeartbeats 8000000 in
set_option maxRecDepth 100000 in
theorem memBack_1 (A0 : Option Addr) (c0 : Nat) (l : List S40) (h : Bool) (p m op base off n : Int) (w : World) (hr0 : Kd.C k40 w A0 l.length l) (hc0 : l.length ≤ c0) (hbig : 2000 < l.length) :
    Calls Try.prog 4 #[.agg #[.bool h, .int .i64 p, .int .i64 m, .slice A0 l.length c0], .int .u8 op, .int .i64 base, .int .i64 off, .int .i64 n] w fun e w' => e = .returned (.bool true) ∧ Below w.heap.size w w' := by
  have HB := Aside0.mk (Below.refl w.heap.size w)
  have HR := Aside0.mk hr0
  have HC := Aside0.mk hc0
  clear hr0 hc0
  go_enter Try.func4, Try.ntmps4
  go_upto_region 1 with (fail)
  have m0_ := Aside0.mk (HB.out.alloc HB.out.size (.cells #[.bool h, .int .i64 p, .int .i64 m, .slice A0 l.length c0] 26))
  have m1_ := Aside0.mk (Kd.C_alloc HR.out (.cells #[.bool h, .int .i64 p, .int .i64 m, .slice A0 l.length c0] 26))
  clear HB HR
  have HB := m0_
  have HR := m1_
  clear m0_ m1_
  have HK : Aside0 ((w.alloc (.cells #[.bool h, .int .i64 p, .int .i64 m, .slice A0 l.length c0] 26)).heap[w.heap.size]? = some (.cells #[.bool h, .int .i64 p, .int .i64 m, .slice A0 l.length c0] 26 (0, 0))) := ⟨heap_alloc_new _ _⟩
  generalize w.alloc (.cells #[.bool h, .int .i64 p, .int .i64 m, .slice A0 l.length c0] 26) = w1 at HB HR HK ⊢
  obtain ⟨g, hg_⟩ : ∃ g_, w.heap.size = g_ := ⟨_, rfl⟩
  rw [hg_] at HK ⊢
  have HG_ := Aside0.mk hg_
  clear hg_
  go_upto_region 2 with (first | (go_at_call 18; refine (alive_any _).mono ?_; rintro e w2 ⟨rfl, hb⟩; have m0_ := Aside0.mk (below_step HB.out hb); have m1_ := Aside0.mk (Kd.C_below HR.out hb); have m2_ := Aside0.mk (blk_below HK.out hb); clear HB HR HK; have HB := m0_; have HR := m1_; have HK := m2_; clear m0_ m1_ m2_; clear hb) | fail)
  obtain ⟨k0, k1, k2, k3⟩ := blk4 HK.out
  have c1 : decide (2000 < (l.length : Int)) = true := decide_eq_true (by omega)
  have c2 : decide (2000 < l.length) = true := decide_eq_true hbig
  go_wp2
  go_ret
  exact ⟨rfl, HB.out⟩
set_option maxHeartbeats 8000000 in
set_option maxRecDepth 100000 in
theorem memBack_2 (A0 : Option Addr) (c0 : Nat) (l : List S40) (h : Bool) (p m op base off n : Int) (w : World) (hr0 : Kd.C k40 w A0 l.length l) (hc0 : l.length ≤ c0) (hsm : l.length ≤ 2000) (K : Nat) (e_ : Int) (he : e_ ≠ 0) (hst : mem_Store.f K h p m l op base off n = some (false, 0, 0, [], 0, e_)) :
    Calls Try.prog 4 #[.agg #[.bool h, .int .i64 p, .int .i64 m, .slice A0 l.length c0], .int .u8 op, .int .i64 base, .int .i64 off, .int .i64 n] w fun e w' => e = .returned (.bool true) ∧ Below w.heap.size w w' := by
  have HB := Aside0.mk (Below.refl w.heap.size w)
  have HR := Aside0.mk hr0
  have HC := Aside0.mk hc0
  clear hr0 hc0
  go_enter Try.func4, Try.ntmps4
  go_upto_region 1 with (fail)
  have m0_ := Aside0.mk (HB.out.alloc HB.out.size (.cells #[.bool h, .int .i64 p, .int .i64 m, .slice A0 l.length c0] 26))
  have m1_ := Aside0.mk (Kd.C_alloc HR.out (.cells #[.bool h, .int .i64 p, .int .i64 m, .slice A0 l.length c0] 26))
  clear HB HR
  have HB := m0_
  have HR := m1_
  clear m0_ m1_
  have HK : Aside0 ((w.alloc (.cells #[.bool h, .int .i64 p, .int .i64 m, .slice A0 l.length c0] 26)).heap[w.heap.size]? = some (.cells #[.bool h, .int .i64 p, .int .i64 m, .slice A0 l.length c0] 26 (0, 0))) := ⟨heap_alloc_new _ _⟩
  generalize w.alloc (.cells #[.bool h, .int .i64 p, .int .i64 m, .slice A0 l.length c0] 26) = w1 at HB HR HK ⊢
  obtain ⟨g, hg_⟩ : ∃ g_, w.heap.size = g_ := ⟨_, rfl⟩
  rw [hg_] at HK ⊢
  have HG_ := Aside0.mk hg_
  clear hg_
  go_upto_region 2 with (first | (go_at_call 18; refine (alive_any _).mono ?_; rintro e w2 ⟨rfl, hb⟩; have m0_ := Aside0.mk (below_step HB.out hb); have m1_ := Aside0.mk (Kd.C_below HR.out hb); have m2_ := Aside0.mk (blk_below HK.out hb); clear HB HR HK; have HB := m0_; have HR := m1_; have HK := m2_; clear m0_ m1_ m2_; clear hb) | fail)
  obtain ⟨k0, k1, k2, k3⟩ := blk4 HK.out
  have c1 : decide (2000 < (l.length : Int)) = false := decide_eq_false (by omega)
  have c2 : decide (2000 < l.length) = false := decide_eq_false (by omega)
  have HST := Aside0.mk hst
  clear hst
  go_upto_region 5 with (first | (go_at_call 19; refine (mem_Store.calls _ _ _ _ _ _ _ _ _ _ _ _ _ _ _ _ _ _ HR.out HC.out HST.out).mono ?_; rintro e w3 ⟨v3, rfl, ho, hb⟩; have m0_ := Aside0.mk (below_step HB.out hb); have m1_ := Aside0.mk (Kd.C_below HR.out hb); have m2_ := Aside0.mk (blk_below HK.out hb); clear HB HR HK; have HB := m0_; have HR := m1_; have HK := m2_; clear m0_ m1_ m2_; obtain ⟨A3, c3, rfl⟩ := Kd.R_slice ho; have HC3 := Aside0.mk (Kd.R_reads' ho).2.2; have HL3 := Aside0.mk (Kd.R_reads' ho).2.1; clear ho; clear hb) | fail)
  have m0_ := Aside0.mk (HB.out.alloc HB.out.size (.cells #[.bool false, .int .i64 0, .int .i64 0, .slice A3 0 c3] 26))
  have m1_ := Aside0.mk (Kd.C_alloc HR.out (.cells #[.bool false, .int .i64 0, .int .i64 0, .slice A3 0 c3] 26))
  have m2_ := Aside0.mk (blk_alloc HK.out (.cells #[.bool false, .int .i64 0, .int .i64 0, .slice A3 0 c3] 26))
  have m3_ := Aside0.mk (Kd.C_alloc HC3.out (.cells #[.bool false, .int .i64 0, .int .i64 0, .slice A3 0 c3] 26))
  clear HB HR HK HC3
  have HB := m0_
  have HR := m1_
  have HK := m2_
  have HC3 := m3_
  clear m0_ m1_ m2_ m3_
  have HK3 : Aside0 ((w3.alloc (.cells #[.bool false, .int .i64 0, .int .i64 0, .slice A3 0 c3] 26)).heap[w3.heap.size]? = some (.cells #[.bool false, .int .i64 0, .int .i64 0, .slice A3 0 c3] 26 (0, 0))) := ⟨heap_alloc_new _ _⟩
  generalize w3.alloc (.cells #[.bool false, .int .i64 0, .int .i64 0, .slice A3 0 c3] 26) = w4 at HB HR HK HC3 HK3 ⊢
  generalize w3.heap.size = g3 at HK3 ⊢
  clear k0 k1 k2 k3
  obtain ⟨k0, k1, k2, k3⟩ := blk4 HK.out
  obtain ⟨j0, j1, j2, j3⟩ := blk4 HK3.out
  have e1 : (e_ == 0) = false := beq_eq_false_iff_ne.mpr he
  have e2 : (e_ != 0) = true := bne_iff_ne.mpr he
  go_wp2
  go_ret
  exact ⟨rfl, HB.out⟩
set_option maxHeartbeats 8000000 in
set_option maxRecDepth 100000 in
theorem memBack_3 (A0 : Option Addr) (c0 : Nat) (l : List S40) (h : Bool) (p m op base off n : Int) (w : World) (hr0 : Kd.C k40 w A0 l.length l) (hc0 : l.length ≤ c0) (hsm : l.length ≤ 2000) (K : Nat) (hst : mem_Store.f K h p m l op base off n = some (h, p, m, l, 4, 0)) (hsa : bytebarnref13_Same.f K h p m l h p m l = some true) :
    Calls Try.prog 4 #[.agg #[.bool h, .int .i64 p, .int .i64 m, .slice A0 l.length c0], .int .u8 op, .int .i64 base, .int .i64 off, .int .i64 n] w fun e w' => e = .returned (.bool true) ∧ Below w.heap.size w w' := by
  have HB := Aside0.mk (Below.refl w.heap.size w)
  have HR := Aside0.mk hr0
  have HC := Aside0.mk hc0
  clear hr0 hc0
  go_enter Try.func4, Try.ntmps4
  go_upto_region 1 with (fail)
  have m0_ := Aside0.mk (HB.out.alloc HB.out.size (.cells #[.bool h, .int .i64 p, .int .i64 m, .slice A0 l.length c0] 26))
  have m1_ := Aside0.mk (Kd.C_alloc HR.out (.cells #[.bool h, .int .i64 p, .int .i64 m, .slice A0 l.length c0] 26))
  clear HB HR
  have HB := m0_
  have HR := m1_
  clear m0_ m1_
  have HK : Aside0 ((w.alloc (.cells #[.bool h, .int .i64 p, .int .i64 m, .slice A0 l.length c0] 26)).heap[w.heap.size]? = some (.cells #[.bool h, .int .i64 p, .int .i64 m, .slice A0 l.length c0] 26 (0, 0))) := ⟨heap_alloc_new _ _⟩
  generalize w.alloc (.cells #[.bool h, .int .i64 p, .int .i64 m, .slice A0 l.length c0] 26) = w1 at HB HR HK ⊢
  obtain ⟨g, hg_⟩ : ∃ g_, w.heap.size = g_ := ⟨_, rfl⟩
  rw [hg_] at HK ⊢
  have HG_ := Aside0.mk hg_
  clear hg_
  go_upto_region 2 with (first | (go_at_call 18; refine (alive_any _).mono ?_; rintro e w2 ⟨rfl, hb⟩; have m0_ := Aside0.mk (below_step HB.out hb); have m1_ := Aside0.mk (Kd.C_below HR.out hb); have m2_ := Aside0.mk (blk_below HK.out hb); clear HB HR HK; have HB := m0_; have HR := m1_; have HK := m2_; clear m0_ m1_ m2_; clear hb) | fail)
  obtain ⟨k0, k1, k2, k3⟩ := blk4 HK.out
  have HSA := Aside0.mk hsa
  clear hsa
  have c1 : decide (2000 < (l.length : Int)) = false := decide_eq_false (by omega)
  have c2 : decide (2000 < l.length) = false := decide_eq_false (by omega)
  have HST := Aside0.mk hst
  clear hst
  go_upto_region 5 with (first | (go_at_call 19; refine (mem_Store.calls _ _ _ _ _ _ _ _ _ _ _ _ _ _ _ _ _ _ HR.out HC.out HST.out).mono ?_; rintro e w3 ⟨v3, rfl, ho, hb⟩; have m0_ := Aside0.mk (below_step HB.out hb); have m1_ := Aside0.mk (Kd.C_below HR.out hb); have m2_ := Aside0.mk (blk_below HK.out hb); clear HB HR HK; have HB := m0_; have HR := m1_; have HK := m2_; clear m0_ m1_ m2_; obtain ⟨A3, c3, rfl⟩ := Kd.R_slice ho; have HC3 := Aside0.mk (Kd.R_reads' ho).2.2; have HL3 := Aside0.mk (Kd.R_reads' ho).2.1; clear ho; clear hb) | fail)
  have m0_ := Aside0.mk (HB.out.alloc HB.out.size (.cells #[.bool h, .int .i64 p, .int .i64 m, .slice A3 l.length c3] 26))
  have m1_ := Aside0.mk (Kd.C_alloc HR.out (.cells #[.bool h, .int .i64 p, .int .i64 m, .slice A3 l.length c3] 26))
  have m2_ := Aside0.mk (blk_alloc HK.out (.cells #[.bool h, .int .i64 p, .int .i64 m, .slice A3 l.length c3] 26))
  have m3_ := Aside0.mk (Kd.C_alloc HC3.out (.cells #[.bool h, .int .i64 p, .int .i64 m, .slice A3 l.length c3] 26))
  clear HB HR HK HC3
  have HB := m0_
  have HR := m1_
  have HK := m2_
  have HC3 := m3_
  clear m0_ m1_ m2_ m3_
  have HK3 : Aside0 ((w3.alloc (.cells #[.bool h, .int .i64 p, .int .i64 m, .slice A3 l.length c3] 26)).heap[w3.heap.size]? = some (.cells #[.bool h, .int .i64 p, .int .i64 m, .slice A3 l.length c3] 26 (0, 0))) := ⟨heap_alloc_new _ _⟩
  generalize w3.alloc (.cells #[.bool h, .int .i64 p, .int .i64 m, .slice A3 l.length c3] 26) = w4 at HB HR HK HC3 HK3 ⊢
  generalize w3.heap.size = g3 at HK3 ⊢
  clear k0 k1 k2 k3
  obtain ⟨k0, k1, k2, k3⟩ := blk4 HK.out
  obtain ⟨j0, j1, j2, j3⟩ := blk4 HK3.out
  go_wp2_with (first | (go_at_call 15; refine (bytebarnref13_Same.calls _ _ _ _ _ _ _ _ _ _ _ _ _ _ _ HC3.out HL3.out HR.out HC.out HSA.out).mono ?_; rintro e w5 ⟨rfl, hb⟩; have m0_ := Aside0.mk (below_step HB.out hb); have m1_ := Aside0.mk (Kd.C_below HR.out hb); have m2_ := Aside0.mk (blk_below HK.out hb); have m3_ := Aside0.mk (Kd.C_below HC3.out hb); have m4_ := Aside0.mk (blk_below HK3.out hb); clear HB HR HK HC3 HK3; have HB := m0_; have HR := m1_; have HK := m2_; have HC3 := m3_; have HK3 := m4_; clear m0_ m1_ m2_ m3_ m4_; clear hb) | fail)
  go_ret
  exact ⟨rfl, HB.out⟩
set_option maxHeartbeats 8000000 in
set_option maxRecDepth 100000 in
theorem memBack_54 (A0 : Option Addr) (c0 : Nat) (l : List S40) (h : Bool) (p m op base off n : Int) (w : World) (hr0 : Kd.C k40 w A0 l.length l) (hc0 : l.length ≤ c0) (hsm : l.length ≤ 2000) (K : Nat) (hop : op = 54) (lw : List S40) (hst : mem_Store.f K h p m l op base off n = some (h, p, m, lw, 0, 0)) (hld : memLoadF K h p m lw 53 base off = some (Go.bits .and .i64 n (4294967295), 0, 0)) (hck : mem_Check.f K h p m lw = some 0) :
    Calls Try.prog 4 #[.agg #[.bool h, .int .i64 p, .int .i64 m, .slice A0 l.length c0], .int .u8 op, .int .i64 base, .int .i64 off, .int .i64 n] w fun e w' => e = .returned (.bool true) ∧ Below w.heap.size w w' := by
  have HB := Aside0.mk (Below.refl w.heap.size w)
  have HR := Aside0.mk hr0
  have HC := Aside0.mk hc0
  clear hr0 hc0
  go_enter Try.func4, Try.ntmps4
  go_upto_region 1 with (fail)
  have m0_ := Aside0.mk (HB.out.alloc HB.out.size (.cells #[.bool h, .int .i64 p, .int .i64 m, .slice A0 l.length c0] 26))
  have m1_ := Aside0.mk (Kd.C_alloc HR.out (.cells #[.bool h, .int .i64 p, .int .i64 m, .slice A0 l.length c0] 26))
  clear HB HR
  have HB := m0_
  have HR := m1_
  clear m0_ m1_
  have HK : Aside0 ((w.alloc (.cells #[.bool h, .int .i64 p, .int .i64 m, .slice A0 l.length c0] 26)).heap[w.heap.size]? = some (.cells #[.bool h, .int .i64 p, .int .i64 m, .slice A0 l.length c0] 26 (0, 0))) := ⟨heap_alloc_new _ _⟩
  generalize w.alloc (.cells #[.bool h, .int .i64 p, .int .i64 m, .slice A0 l.length c0] 26) = w1 at HB HR HK ⊢
  obtain ⟨g, hg_⟩ : ∃ g_, w.heap.size = g_ := ⟨_, rfl⟩
  rw [hg_] at HK ⊢
  have HG_ := Aside0.mk hg_
  clear hg_
  go_upto_region 2 with (first | (go_at_call 18; refine (alive_any _).mono ?_; rintro e w2 ⟨rfl, hb⟩; have m0_ := Aside0.mk (below_step HB.out hb); have m1_ := Aside0.mk (Kd.C_below HR.out hb); have m2_ := Aside0.mk (blk_below HK.out hb); clear HB HR HK; have HB := m0_; have HR := m1_; have HK := m2_; clear m0_ m1_ m2_; clear hb) | fail)
  obtain ⟨k0, k1, k2, k3⟩ := blk4 HK.out
  subst hop
  have HLD := Aside0.mk hld
  have HCK := Aside0.mk hck
  clear hld hck
  have c1 : decide (2000 < (l.length : Int)) = false := decide_eq_false (by omega)
  have c2 : decide (2000 < l.length) = false := decide_eq_false (by omega)
  have HST := Aside0.mk hst
  clear hst
  go_upto_region 5 with (first | (go_at_call 19; refine (mem_Store.calls _ _ _ _ _ _ _ _ _ _ _ _ _ _ _ _ _ _ HR.out HC.out HST.out).mono ?_; rintro e w3 ⟨v3, rfl, ho, hb⟩; have m0_ := Aside0.mk (below_step HB.out hb); have m1_ := Aside0.mk (Kd.C_below HR.out hb); have m2_ := Aside0.mk (blk_below HK.out hb); clear HB HR HK; have HB := m0_; have HR := m1_; have HK := m2_; clear m0_ m1_ m2_; obtain ⟨A3, c3, rfl⟩ := Kd.R_slice ho; have HC3 := Aside0.mk (Kd.R_reads' ho).2.2; have HL3 := Aside0.mk (Kd.R_reads' ho).2.1; clear ho; clear hb) | fail)
  have m0_ := Aside0.mk (HB.out.alloc HB.out.size (.cells #[.bool h, .int .i64 p, .int .i64 m, .slice A3 lw.length c3] 26))
  have m1_ := Aside0.mk (Kd.C_alloc HR.out (.cells #[.bool h, .int .i64 p, .int .i64 m, .slice A3 lw.length c3] 26))
  have m2_ := Aside0.mk (blk_alloc HK.out (.cells #[.bool h, .int .i64 p, .int .i64 m, .slice A3 lw.length c3] 26))
  have m3_ := Aside0.mk (Kd.C_alloc HC3.out (.cells #[.bool h, .int .i64 p, .int .i64 m, .slice A3 lw.length c3] 26))
  clear HB HR HK HC3
  have HB := m0_
  have HR := m1_
  have HK := m2_
  have HC3 := m3_
  clear m0_ m1_ m2_ m3_
  have HK3 : Aside0 ((w3.alloc (.cells #[.bool h, .int .i64 p, .int .i64 m, .slice A3 lw.length c3] 26)).heap[w3.heap.size]? = some (.cells #[.bool h, .int .i64 p, .int .i64 m, .slice A3 lw.length c3] 26 (0, 0))) := ⟨heap_alloc_new _ _⟩
  generalize w3.alloc (.cells #[.bool h, .int .i64 p, .int .i64 m, .slice A3 lw.length c3] 26) = w4 at HB HR HK HC3 HK3 ⊢
  generalize w3.heap.size = g3 at HK3 ⊢
  clear k0 k1 k2 k3
  obtain ⟨k0, k1, k2, k3⟩ := blk4 HK.out
  obtain ⟨j0, j1, j2, j3⟩ := blk4 HK3.out
  go_wp2_with (first | ((go_at_call 20; refine (memLoad_calls _ _ _ _ _ _ _ _ _ _ _ _ _ _ HC3.out HL3.out HLD.out).mono ?_; rintro e w5 ⟨rfl, hb⟩; have m0_ := Aside0.mk (below_step HB.out hb); have m1_ := Aside0.mk (Kd.C_below HR.out hb); have m2_ := Aside0.mk (blk_below HK.out hb); have m3_ := Aside0.mk (Kd.C_below HC3.out hb); have m4_ := Aside0.mk (blk_below HK3.out hb); clear HB HR HK HC3 HK3; have HB := m0_; have HR := m1_; have HK := m2_; have HC3 := m3_; have HK3 := m4_; clear m0_ m1_ m2_ m3_ m4_; clear hb); (obtain ⟨i0, i1, i2, i3⟩ := blk4 HK3.out)) | (go_at_call 21; refine (mem_Check.calls _ _ _ _ _ _ _ _ _ HC3.out HL3.out HCK.out).mono ?_; rintro e w6 ⟨rfl, hb⟩; have m0_ := Aside0.mk (below_step HB.out hb); have m1_ := Aside0.mk (Kd.C_below HR.out hb); have m2_ := Aside0.mk (blk_below HK.out hb); have m3_ := Aside0.mk (Kd.C_below HC3.out hb); have m4_ := Aside0.mk (blk_below HK3.out hb); clear HB HR HK HC3 HK3; have HB := m0_; have HR := m1_; have HK := m2_; have HC3 := m3_; have HK3 := m4_; clear m0_ m1_ m2_ m3_ m4_; clear hb) | fail)
  go_ret
  exact ⟨rfl, HB.out⟩
set_option maxHeartbeats 8000000 in
set_option maxRecDepth 100000 in
theorem memBack_55 (A0 : Option Addr) (c0 : Nat) (l : List S40) (h : Bool) (p m op base off n : Int) (w : World) (hr0 : Kd.C k40 w A0 l.length l) (hc0 : l.length ≤ c0) (hsm : l.length ≤ 2000) (K : Nat) (hop : op = 55) (lw : List S40) (hst : mem_Store.f K h p m l op base off n = some (h, p, m, lw, 0, 0)) (hld : memLoadF K h p m lw 41 base off = some (Go.bits .and .i64 n (-1), 0, 0)) (hck : mem_Check.f K h p m lw = some 0) :
    Calls Try.prog 4 #[.agg #[.bool h, .int .i64 p, .int .i64 m, .slice A0 l.length c0], .int .u8 op, .int .i64 base, .int .i64 off, .int .i64 n] w fun e w' => e = .returned (.bool true) ∧ Below w.heap.size w w' := by
  have HB := Aside0.mk (Below.refl w.heap.size w)
  have HR := Aside0.mk hr0
  have HC := Aside0.mk hc0
  clear hr0 hc0
  go_enter Try.func4, Try.ntmps4
  go_upto_region 1 with (fail)
  have m0_ := Aside0.mk (HB.out.alloc HB.out.size (.cells #[.bool h, .int .i64 p, .int .i64 m, .slice A0 l.length c0] 26))
  have m1_ := Aside0.mk (Kd.C_alloc HR.out (.cells #[.bool h, .int .i64 p, .int .i64 m, .slice A0 l.length c0] 26))
  clear HB HR
  have HB := m0_
  have HR := m1_
  clear m0_ m1_
  have HK : Aside0 ((w.alloc (.cells #[.bool h, .int .i64 p, .int .i64 m, .slice A0 l.length c0] 26)).heap[w.heap.size]? = some (.cells #[.bool h, .int .i64 p, .int .i64 m, .slice A0 l.length c0] 26 (0, 0))) := ⟨heap_alloc_new _ _⟩
  generalize w.alloc (.cells #[.bool h, .int .i64 p, .int .i64 m, .slice A0 l.length c0] 26) = w1 at HB HR HK ⊢
  obtain ⟨g, hg_⟩ : ∃ g_, w.heap.size = g_ := ⟨_, rfl⟩
  rw [hg_] at HK ⊢
  have HG_ := Aside0.mk hg_
  clear hg_
  go_upto_region 2 with (first | (go_at_call 18; refine (alive_any _).mono ?_; rintro e w2 ⟨rfl, hb⟩; have m0_ := Aside0.mk (below_step HB.out hb); have m1_ := Aside0.mk (Kd.C_below HR.out hb); have m2_ := Aside0.mk (blk_below HK.out hb); clear HB HR HK; have HB := m0_; have HR := m1_; have HK := m2_; clear m0_ m1_ m2_; clear hb) | fail)
  obtain ⟨k0, k1, k2, k3⟩ := blk4 HK.out
  subst hop
  have HLD := Aside0.mk hld
  have HCK := Aside0.mk hck
  clear hld hck
  have c1 : decide (2000 < (l.length : Int)) = false := decide_eq_false (by omega)
  have c2 : decide (2000 < l.length) = false := decide_eq_false (by omega)
  have HST := Aside0.mk hst
  clear hst
  go_upto_region 5 with (first | (go_at_call 19; refine (mem_Store.calls _ _ _ _ _ _ _ _ _ _ _ _ _ _ _ _ _ _ HR.out HC.out HST.out).mono ?_; rintro e w3 ⟨v3, rfl, ho, hb⟩; have m0_ := Aside0.mk (below_step HB.out hb); have m1_ := Aside0.mk (Kd.C_below HR.out hb); have m2_ := Aside0.mk (blk_below HK.out hb); clear HB HR HK; have HB := m0_; have HR := m1_; have HK := m2_; clear m0_ m1_ m2_; obtain ⟨A3, c3, rfl⟩ := Kd.R_slice ho; have HC3 := Aside0.mk (Kd.R_reads' ho).2.2; have HL3 := Aside0.mk (Kd.R_reads' ho).2.1; clear ho; clear hb) | fail)
  have m0_ := Aside0.mk (HB.out.alloc HB.out.size (.cells #[.bool h, .int .i64 p, .int .i64 m, .slice A3 lw.length c3] 26))
  have m1_ := Aside0.mk (Kd.C_alloc HR.out (.cells #[.bool h, .int .i64 p, .int .i64 m, .slice A3 lw.length c3] 26))
  have m2_ := Aside0.mk (blk_alloc HK.out (.cells #[.bool h, .int .i64 p, .int .i64 m, .slice A3 lw.length c3] 26))
  have m3_ := Aside0.mk (Kd.C_alloc HC3.out (.cells #[.bool h, .int .i64 p, .int .i64 m, .slice A3 lw.length c3] 26))
  clear HB HR HK HC3
  have HB := m0_
  have HR := m1_
  have HK := m2_
  have HC3 := m3_
  clear m0_ m1_ m2_ m3_
  have HK3 : Aside0 ((w3.alloc (.cells #[.bool h, .int .i64 p, .int .i64 m, .slice A3 lw.length c3] 26)).heap[w3.heap.size]? = some (.cells #[.bool h, .int .i64 p, .int .i64 m, .slice A3 lw.length c3] 26 (0, 0))) := ⟨heap_alloc_new _ _⟩
  generalize w3.alloc (.cells #[.bool h, .int .i64 p, .int .i64 m, .slice A3 lw.length c3] 26) = w4 at HB HR HK HC3 HK3 ⊢
  generalize w3.heap.size = g3 at HK3 ⊢
  clear k0 k1 k2 k3
  obtain ⟨k0, k1, k2, k3⟩ := blk4 HK.out
  obtain ⟨j0, j1, j2, j3⟩ := blk4 HK3.out
  go_wp2_with (first | ((go_at_call 20; refine (memLoad_calls _ _ _ _ _ _ _ _ _ _ _ _ _ _ HC3.out HL3.out HLD.out).mono ?_; rintro e w5 ⟨rfl, hb⟩; have m0_ := Aside0.mk (below_step HB.out hb); have m1_ := Aside0.mk (Kd.C_below HR.out hb); have m2_ := Aside0.mk (blk_below HK.out hb); have m3_ := Aside0.mk (Kd.C_below HC3.out hb); have m4_ := Aside0.mk (blk_below HK3.out hb); clear HB HR HK HC3 HK3; have HB := m0_; have HR := m1_; have HK := m2_; have HC3 := m3_; have HK3 := m4_; clear m0_ m1_ m2_ m3_ m4_; clear hb); (obtain ⟨i0, i1, i2, i3⟩ := blk4 HK3.out)) | (go_at_call 21; refine (mem_Check.calls _ _ _ _ _ _ _ _ _ HC3.out HL3.out HCK.out).mono ?_; rintro e w6 ⟨rfl, hb⟩; have m0_ := Aside0.mk (below_step HB.out hb); have m1_ := Aside0.mk (Kd.C_below HR.out hb); have m2_ := Aside0.mk (blk_below HK.out hb); have m3_ := Aside0.mk (Kd.C_below HC3.out hb); have m4_ := Aside0.mk (blk_below HK3.out hb); clear HB HR HK HC3 HK3; have HB := m0_; have HR := m1_; have HK := m2_; have HC3 := m3_; have HK3 := m4_; clear m0_ m1_ m2_ m3_ m4_; clear hb) | fail)
  go_ret
  exact ⟨rfl, HB.out⟩
set_option maxHeartbeats 8000000 in
set_option maxRecDepth 100000 in
theorem memBack_58 (A0 : Option Addr) (c0 : Nat) (l : List S40) (h : Bool) (p m op base off n : Int) (w : World) (hr0 : Kd.C k40 w A0 l.length l) (hc0 : l.length ≤ c0) (hsm : l.length ≤ 2000) (K : Nat) (hop : op = 58) (lw : List S40) (hst : mem_Store.f K h p m l op base off n = some (h, p, m, lw, 0, 0)) (hld : memLoadF K h p m lw 45 base off = some (Go.bits .and .i64 n (255), 0, 0)) (hck : mem_Check.f K h p m lw = some 0) :
    Calls Try.prog 4 #[.agg #[.bool h, .int .i64 p, .int .i64 m, .slice A0 l.length c0], .int .u8 op, .int .i64 base, .int .i64 off, .int .i64 n] w fun e w' => e = .returned (.bool true) ∧ Below w.heap.size w w' := by
  have HB := Aside0.mk (Below.refl w.heap.size w)
  have HR := Aside0.mk hr0
  have HC := Aside0.mk hc0
  clear hr0 hc0
  go_enter Try.func4, Try.ntmps4
  go_upto_region 1 with (fail)
  have m0_ := Aside0.mk (HB.out.alloc HB.out.size (.cells #[.bool h, .int .i64 p, .int .i64 m, .slice A0 l.length c0] 26))
  have m1_ := Aside0.mk (Kd.C_alloc HR.out (.cells #[.bool h, .int .i64 p, .int .i64 m, .slice A0 l.length c0] 26))
  clear HB HR
  have HB := m0_
  have HR := m1_
  clear m0_ m1_
  have HK : Aside0 ((w.alloc (.cells #[.bool h, .int .i64 p, .int .i64 m, .slice A0 l.length c0] 26)).heap[w.heap.size]? = some (.cells #[.bool h, .int .i64 p, .int .i64 m, .slice A0 l.length c0] 26 (0, 0))) := ⟨heap_alloc_new _ _⟩
  generalize w.alloc (.cells #[.bool h, .int .i64 p, .int .i64 m, .slice A0 l.length c0] 26) = w1 at HB HR HK ⊢
  obtain ⟨g, hg_⟩ : ∃ g_, w.heap.size = g_ := ⟨_, rfl⟩
  rw [hg_] at HK ⊢
  have HG_ := Aside0.mk hg_
  clear hg_
  go_upto_region 2 with (first | (go_at_call 18; refine (alive_any _).mono ?_; rintro e w2 ⟨rfl, hb⟩; have m0_ := Aside0.mk (below_step HB.out hb); have m1_ := Aside0.mk (Kd.C_below HR.out hb); have m2_ := Aside0.mk (blk_below HK.out hb); clear HB HR HK; have HB := m0_; have HR := m1_; have HK := m2_; clear m0_ m1_ m2_; clear hb) | fail)
  obtain ⟨k0, k1, k2, k3⟩ := blk4 HK.out
  subst hop
  have HLD := Aside0.mk hld
  have HCK := Aside0.mk hck
  clear hld hck
  have c1 : decide (2000 < (l.length : Int)) = false := decide_eq_false (by omega)
  have c2 : decide (2000 < l.length) = false := decide_eq_false (by omega)
  have HST := Aside0.mk hst
  clear hst
  go_upto_region 5 with (first | (go_at_call 19; refine (mem_Store.calls _ _ _ _ _ _ _ _ _ _ _ _ _ _ _ _ _ _ HR.out HC.out HST.out).mono ?_; rintro e w3 ⟨v3, rfl, ho, hb⟩; have m0_ := Aside0.mk (below_step HB.out hb); have m1_ := Aside0.mk (Kd.C_below HR.out hb); have m2_ := Aside0.mk (blk_below HK.out hb); clear HB HR HK; have HB := m0_; have HR := m1_; have HK := m2_; clear m0_ m1_ m2_; obtain ⟨A3, c3, rfl⟩ := Kd.R_slice ho; have HC3 := Aside0.mk (Kd.R_reads' ho).2.2; have HL3 := Aside0.mk (Kd.R_reads' ho).2.1; clear ho; clear hb) | fail)
  have m0_ := Aside0.mk (HB.out.alloc HB.out.size (.cells #[.bool h, .int .i64 p, .int .i64 m, .slice A3 lw.length c3] 26))
  have m1_ := Aside0.mk (Kd.C_alloc HR.out (.cells #[.bool h, .int .i64 p, .int .i64 m, .slice A3 lw.length c3] 26))
  have m2_ := Aside0.mk (blk_alloc HK.out (.cells #[.bool h, .int .i64 p, .int .i64 m, .slice A3 lw.length c3] 26))
  have m3_ := Aside0.mk (Kd.C_alloc HC3.out (.cells #[.bool h, .int .i64 p, .int .i64 m, .slice A3 lw.length c3] 26))
  clear HB HR HK HC3
  have HB := m0_
  have HR := m1_
  have HK := m2_
  have HC3 := m3_
  clear m0_ m1_ m2_ m3_
  have HK3 : Aside0 ((w3.alloc (.cells #[.bool h, .int .i64 p, .int .i64 m, .slice A3 lw.length c3] 26)).heap[w3.heap.size]? = some (.cells #[.bool h, .int .i64 p, .int .i64 m, .slice A3 lw.length c3] 26 (0, 0))) := ⟨heap_alloc_new _ _⟩
  generalize w3.alloc (.cells #[.bool h, .int .i64 p, .int .i64 m, .slice A3 lw.length c3] 26) = w4 at HB HR HK HC3 HK3 ⊢
  generalize w3.heap.size = g3 at HK3 ⊢
  clear k0 k1 k2 k3
  obtain ⟨k0, k1, k2, k3⟩ := blk4 HK.out
  obtain ⟨j0, j1, j2, j3⟩ := blk4 HK3.out
  go_wp2_with (first | ((go_at_call 20; refine (memLoad_calls _ _ _ _ _ _ _ _ _ _ _ _ _ _ HC3.out HL3.out HLD.out).mono ?_; rintro e w5 ⟨rfl, hb⟩; have m0_ := Aside0.mk (below_step HB.out hb); have m1_ := Aside0.mk (Kd.C_below HR.out hb); have m2_ := Aside0.mk (blk_below HK.out hb); have m3_ := Aside0.mk (Kd.C_below HC3.out hb); have m4_ := Aside0.mk (blk_below HK3.out hb); clear HB HR HK HC3 HK3; have HB := m0_; have HR := m1_; have HK := m2_; have HC3 := m3_; have HK3 := m4_; clear m0_ m1_ m2_ m3_ m4_; clear hb); (obtain ⟨i0, i1, i2, i3⟩ := blk4 HK3.out)) | (go_at_call 21; refine (mem_Check.calls _ _ _ _ _ _ _ _ _ HC3.out HL3.out HCK.out).mono ?_; rintro e w6 ⟨rfl, hb⟩; have m0_ := Aside0.mk (below_step HB.out hb); have m1_ := Aside0.mk (Kd.C_below HR.out hb); have m2_ := Aside0.mk (blk_below HK.out hb); have m3_ := Aside0.mk (Kd.C_below HC3.out hb); have m4_ := Aside0.mk (blk_below HK3.out hb); clear HB HR HK HC3 HK3; have HB := m0_; have HR := m1_; have HK := m2_; have HC3 := m3_; have HK3 := m4_; clear m0_ m1_ m2_ m3_ m4_; clear hb) | fail)
  go_ret
  exact ⟨rfl, HB.out⟩
set_option maxHeartbeats 8000000 in
set_option maxRecDepth 100000 in
theorem memBack_59 (A0 : Option Addr) (c0 : Nat) (l : List S40) (h : Bool) (p m op base off n : Int) (w : World) (hr0 : Kd.C k40 w A0 l.length l) (hc0 : l.length ≤ c0) (hsm : l.length ≤ 2000) (K : Nat) (hop : op = 59) (lw : List S40) (hst : mem_Store.f K h p m l op base off n = some (h, p, m, lw, 0, 0)) (hld : memLoadF K h p m lw 47 base off = some (Go.bits .and .i64 n (65535), 0, 0)) (hck : mem_Check.f K h p m lw = some 0) :
    Calls Try.prog 4 #[.agg #[.bool h, .int .i64 p, .int .i64 m, .slice A0 l.length c0], .int .u8 op, .int .i64 base, .int .i64 off, .int .i64 n] w fun e w' => e = .returned (.bool true) ∧ Below w.heap.size w w' := by
  have HB := Aside0.mk (Below.refl w.heap.size w)
  have HR := Aside0.mk hr0
  have HC := Aside0.mk hc0
  clear hr0 hc0
  go_enter Try.func4, Try.ntmps4
  go_upto_region 1 with (fail)
  have m0_ := Aside0.mk (HB.out.alloc HB.out.size (.cells #[.bool h, .int .i64 p, .int .i64 m, .slice A0 l.length c0] 26))
  have m1_ := Aside0.mk (Kd.C_alloc HR.out (.cells #[.bool h, .int .i64 p, .int .i64 m, .slice A0 l.length c0] 26))
  clear HB HR
  have HB := m0_
  have HR := m1_
  clear m0_ m1_
  have HK : Aside0 ((w.alloc (.cells #[.bool h, .int .i64 p, .int .i64 m, .slice A0 l.length c0] 26)).heap[w.heap.size]? = some (.cells #[.bool h, .int .i64 p, .int .i64 m, .slice A0 l.length c0] 26 (0, 0))) := ⟨heap_alloc_new _ _⟩
  generalize w.alloc (.cells #[.bool h, .int .i64 p, .int .i64 m, .slice A0 l.length c0] 26) = w1 at HB HR HK ⊢
  obtain ⟨g, hg_⟩ : ∃ g_, w.heap.size = g_ := ⟨_, rfl⟩
  rw [hg_] at HK ⊢
  have HG_ := Aside0.mk hg_
  clear hg_
  go_upto_region 2 with (first | (go_at_call 18; refine (alive_any _).mono ?_; rintro e w2 ⟨rfl, hb⟩; have m0_ := Aside0.mk (below_step HB.out hb); have m1_ := Aside0.mk (Kd.C_below HR.out hb); have m2_ := Aside0.mk (blk_below HK.out hb); clear HB HR HK; have HB := m0_; have HR := m1_; have HK := m2_; clear m0_ m1_ m2_; clear hb) | fail)
  obtain ⟨k0, k1, k2, k3⟩ := blk4 HK.out
  subst hop
  have HLD := Aside0.mk hld
  have HCK := Aside0.mk hck
  clear hld hck
  have c1 : decide (2000 < (l.length : Int)) = false := decide_eq_false (by omega)
  have c2 : decide (2000 < l.length) = false := decide_eq_false (by omega)
  have HST := Aside0.mk hst
  clear hst
  go_upto_region 5 with (first | (go_at_call 19; refine (mem_Store.calls _ _ _ _ _ _ _ _ _ _ _ _ _ _ _ _ _ _ HR.out HC.out HST.out).mono ?_; rintro e w3 ⟨v3, rfl, ho, hb⟩; have m0_ := Aside0.mk (below_step HB.out hb); have m1_ := Aside0.mk (Kd.C_below HR.out hb); have m2_ := Aside0.mk (blk_below HK.out hb); clear HB HR HK; have HB := m0_; have HR := m1_; have HK := m2_; clear m0_ m1_ m2_; obtain ⟨A3, c3, rfl⟩ := Kd.R_slice ho; have HC3 := Aside0.mk (Kd.R_reads' ho).2.2; have HL3 := Aside0.mk (Kd.R_reads' ho).2.1; clear ho; clear hb) | fail)
  have m0_ := Aside0.mk (HB.out.alloc HB.out.size (.cells #[.bool h, .int .i64 p, .int .i64 m, .slice A3 lw.length c3] 26))
  have m1_ := Aside0.mk (Kd.C_alloc HR.out (.cells #[.bool h, .int .i64 p, .int .i64 m, .slice A3 lw.length c3] 26))
  have m2_ := Aside0.mk (blk_alloc HK.out (.cells #[.bool h, .int .i64 p, .int .i64 m, .slice A3 lw.length c3] 26))
  have m3_ := Aside0.mk (Kd.C_alloc HC3.out (.cells #[.bool h, .int .i64 p, .int .i64 m, .slice A3 lw.length c3] 26))
  clear HB HR HK HC3
  have HB := m0_
  have HR := m1_
  have HK := m2_
  have HC3 := m3_
  clear m0_ m1_ m2_ m3_
  have HK3 : Aside0 ((w3.alloc (.cells #[.bool h, .int .i64 p, .int .i64 m, .slice A3 lw.length c3] 26)).heap[w3.heap.size]? = some (.cells #[.bool h, .int .i64 p, .int .i64 m, .slice A3 lw.length c3] 26 (0, 0))) := ⟨heap_alloc_new _ _⟩
  generalize w3.alloc (.cells #[.bool h, .int .i64 p, .int .i64 m, .slice A3 lw.length c3] 26) = w4 at HB HR HK HC3 HK3 ⊢
  generalize w3.heap.size = g3 at HK3 ⊢
  clear k0 k1 k2 k3
  obtain ⟨k0, k1, k2, k3⟩ := blk4 HK.out
  obtain ⟨j0, j1, j2, j3⟩ := blk4 HK3.out
  go_wp2_with (first | ((go_at_call 20; refine (memLoad_calls _ _ _ _ _ _ _ _ _ _ _ _ _ _ HC3.out HL3.out HLD.out).mono ?_; rintro e w5 ⟨rfl, hb⟩; have m0_ := Aside0.mk (below_step HB.out hb); have m1_ := Aside0.mk (Kd.C_below HR.out hb); have m2_ := Aside0.mk (blk_below HK.out hb); have m3_ := Aside0.mk (Kd.C_below HC3.out hb); have m4_ := Aside0.mk (blk_below HK3.out hb); clear HB HR HK HC3 HK3; have HB := m0_; have HR := m1_; have HK := m2_; have HC3 := m3_; have HK3 := m4_; clear m0_ m1_ m2_ m3_ m4_; clear hb); (obtain ⟨i0, i1, i2, i3⟩ := blk4 HK3.out)) | (go_at_call 21; refine (mem_Check.calls _ _ _ _ _ _ _ _ _ HC3.out HL3.out HCK.out).mono ?_; rintro e w6 ⟨rfl, hb⟩; have m0_ := Aside0.mk (below_step HB.out hb); have m1_ := Aside0.mk (Kd.C_below HR.out hb); have m2_ := Aside0.mk (blk_below HK.out hb); have m3_ := Aside0.mk (Kd.C_below HC3.out hb); have m4_ := Aside0.mk (blk_below HK3.out hb); clear HB HR HK HC3 HK3; have HB := m0_; have HR := m1_; have HK := m2_; have HC3 := m3_; have HK3 := m4_; clear m0_ m1_ m2_ m3_ m4_; clear hb) | fail)
  go_ret
  exact ⟨rfl, HB.out⟩
set_option maxHeartbeats 8000000 in
set_option maxRecDepth 100000 in
theorem memBack_60 (A0 : Option Addr) (c0 : Nat) (l : List S40) (h : Bool) (p m op base off n : Int) (w : World) (hr0 : Kd.C k40 w A0 l.length l) (hc0 : l.length ≤ c0) (hsm : l.length ≤ 2000) (K : Nat) (hop : op = 60) (lw : List S40) (hst : mem_Store.f K h p m l op base off n = some (h, p, m, lw, 0, 0)) (hld : memLoadF K h p m lw 49 base off = some (Go.bits .and .i64 n (255), 0, 0)) (hck : mem_Check.f K h p m lw = some 0) :
    Calls Try.prog 4 #[.agg #[.bool h, .int .i64 p, .int .i64 m, .slice A0 l.length c0], .int .u8 op, .int .i64 base, .int .i64 off, .int .i64 n] w fun e w' => e = .returned (.bool true) ∧ Below w.heap.size w w' := by
  have HB := Aside0.mk (Below.refl w.heap.size w)
  have HR := Aside0.mk hr0
  have HC := Aside0.mk hc0
  clear hr0 hc0
  go_enter Try.func4, Try.ntmps4
  go_upto_region 1 with (fail)
  have m0_ := Aside0.mk (HB.out.alloc HB.out.size (.cells #[.bool h, .int .i64 p, .int .i64 m, .slice A0 l.length c0] 26))
  have m1_ := Aside0.mk (Kd.C_alloc HR.out (.cells #[.bool h, .int .i64 p, .int .i64 m, .slice A0 l.length c0] 26))
  clear HB HR
  have HB := m0_
  have HR := m1_
  clear m0_ m1_
  have HK : Aside0 ((w.alloc (.cells #[.bool h, .int .i64 p, .int .i64 m, .slice A0 l.length c0] 26)).heap[w.heap.size]? = some (.cells #[.bool h, .int .i64 p, .int .i64 m, .slice A0 l.length c0] 26 (0, 0))) := ⟨heap_alloc_new _ _⟩
  generalize w.alloc (.cells #[.bool h, .int .i64 p, .int .i64 m, .slice A0 l.length c0] 26) = w1 at HB HR HK ⊢
  obtain ⟨g, hg_⟩ : ∃ g_, w.heap.size = g_ := ⟨_, rfl⟩
  rw [hg_] at HK ⊢
  have HG_ := Aside0.mk hg_
  clear hg_
  go_upto_region 2 with (first | (go_at_call 18; refine (alive_any _).mono ?_; rintro e w2 ⟨rfl, hb⟩; have m0_ := Aside0.mk (below_step HB.out hb); have m1_ := Aside0.mk (Kd.C_below HR.out hb); have m2_ := Aside0.mk (blk_below HK.out hb); clear HB HR HK; have HB := m0_; have HR := m1_; have HK := m2_; clear m0_ m1_ m2_; clear hb) | fail)
  obtain ⟨k0, k1, k2, k3⟩ := blk4 HK.out
  subst hop
  have HLD := Aside0.mk hld
  have HCK := Aside0.mk hck
  clear hld hck
  have c1 : decide (2000 < (l.length : Int)) = false := decide_eq_false (by omega)
  have c2 : decide (2000 < l.length) = false := decide_eq_false (by omega)
  have HST := Aside0.mk hst
  clear hst
  go_upto_region 5 with (first | (go_at_call 19; refine (mem_Store.calls _ _ _ _ _ _ _ _ _ _ _ _ _ _ _ _ _ _ HR.out HC.out HST.out).mono ?_; rintro e w3 ⟨v3, rfl, ho, hb⟩; have m0_ := Aside0.mk (below_step HB.out hb); have m1_ := Aside0.mk (Kd.C_below HR.out hb); have m2_ := Aside0.mk (blk_below HK.out hb); clear HB HR HK; have HB := m0_; have HR := m1_; have HK := m2_; clear m0_ m1_ m2_; obtain ⟨A3, c3, rfl⟩ := Kd.R_slice ho; have HC3 := Aside0.mk (Kd.R_reads' ho).2.2; have HL3 := Aside0.mk (Kd.R_reads' ho).2.1; clear ho; clear hb) | fail)
  have m0_ := Aside0.mk (HB.out.alloc HB.out.size (.cells #[.bool h, .int .i64 p, .int .i64 m, .slice A3 lw.length c3] 26))
  have m1_ := Aside0.mk (Kd.C_alloc HR.out (.cells #[.bool h, .int .i64 p, .int .i64 m, .slice A3 lw.length c3] 26))
  have m2_ := Aside0.mk (blk_alloc HK.out (.cells #[.bool h, .int .i64 p, .int .i64 m, .slice A3 lw.length c3] 26))
  have m3_ := Aside0.mk (Kd.C_alloc HC3.out (.cells #[.bool h, .int .i64 p, .int .i64 m, .slice A3 lw.length c3] 26))
  clear HB HR HK HC3
  have HB := m0_
  have HR := m1_
  have HK := m2_
  have HC3 := m3_
  clear m0_ m1_ m2_ m3_
  have HK3 : Aside0 ((w3.alloc (.cells #[.bool h, .int .i64 p, .int .i64 m, .slice A3 lw.length c3] 26)).heap[w3.heap.size]? = some (.cells #[.bool h, .int .i64 p, .int .i64 m, .slice A3 lw.length c3] 26 (0, 0))) := ⟨heap_alloc_new _ _⟩
  generalize w3.alloc (.cells #[.bool h, .int .i64 p, .int .i64 m, .slice A3 lw.length c3] 26) = w4 at HB HR HK HC3 HK3 ⊢
  generalize w3.heap.size = g3 at HK3 ⊢
  clear k0 k1 k2 k3
  obtain ⟨k0, k1, k2, k3⟩ := blk4 HK.out
  obtain ⟨j0, j1, j2, j3⟩ := blk4 HK3.out
  go_wp2_with (first | ((go_at_call 20; refine (memLoad_calls _ _ _ _ _ _ _ _ _ _ _ _ _ _ HC3.out HL3.out HLD.out).mono ?_; rintro e w5 ⟨rfl, hb⟩; have m0_ := Aside0.mk (below_step HB.out hb); have m1_ := Aside0.mk (Kd.C_below HR.out hb); have m2_ := Aside0.mk (blk_below HK.out hb); have m3_ := Aside0.mk (Kd.C_below HC3.out hb); have m4_ := Aside0.mk (blk_below HK3.out hb); clear HB HR HK HC3 HK3; have HB := m0_; have HR := m1_; have HK := m2_; have HC3 := m3_; have HK3 := m4_; clear m0_ m1_ m2_ m3_ m4_; clear hb); (obtain ⟨i0, i1, i2, i3⟩ := blk4 HK3.out)) | (go_at_call 21; refine (mem_Check.calls _ _ _ _ _ _ _ _ _ HC3.out HL3.out HCK.out).mono ?_; rintro e w6 ⟨rfl, hb⟩; have m0_ := Aside0.mk (below_step HB.out hb); have m1_ := Aside0.mk (Kd.C_below HR.out hb); have m2_ := Aside0.mk (blk_below HK.out hb); have m3_ := Aside0.mk (Kd.C_below HC3.out hb); have m4_ := Aside0.mk (blk_below HK3.out hb); clear HB HR HK HC3 HK3; have HB := m0_; have HR := m1_; have HK := m2_; have HC3 := m3_; have HK3 := m4_; clear m0_ m1_ m2_ m3_ m4_; clear hb) | fail)
  go_ret
  exact ⟨rfl, HB.out⟩
set_option maxHeartbeats 8000000 in
set_option maxRecDepth 100000 in
theorem memBack_61 (A0 : Option Addr) (c0 : Nat) (l : List S40) (h : Bool) (p m op base off n : Int) (w : World) (hr0 : Kd.C k40 w A0 l.length l) (hc0 : l.length ≤ c0) (hsm : l.length ≤ 2000) (K : Nat) (hop : op = 61) (lw : List S40) (hst : mem_Store.f K h p m l op base off n = some (h, p, m, lw, 0, 0)) (hld : memLoadF K h p m lw 51 base off = some (Go.bits .and .i64 n (65535), 0, 0)) (hck : mem_Check.f K h p m lw = some 0) :
    Calls Try.prog 4 #[.agg #[.bool h, .int .i64 p, .int .i64 m, .slice A0 l.length c0], .int .u8 op, .int .i64 base, .int .i64 off, .int .i64 n] w fun e w' => e = .returned (.bool true) ∧ Below w.heap.size w w' := by
  have HB := Aside0.mk (Below.refl w.heap.size w)
  have HR := Aside0.mk hr0
  have HC := Aside0.mk hc0
  clear hr0 hc0
  go_enter Try.func4, Try.ntmps4
  go_upto_region 1 with (fail)
  have m0_ := Aside0.mk (HB.out.alloc HB.out.size (.cells #[.bool h, .int .i64 p, .int .i64 m, .slice A0 l.length c0] 26))
  have m1_ := Aside0.mk (Kd.C_alloc HR.out (.cells #[.bool h, .int .i64 p, .int .i64 m, .slice A0 l.length c0] 26))
  clear HB HR
  have HB := m0_
  have HR := m1_
  clear m0_ m1_
  have HK : Aside0 ((w.alloc (.cells #[.bool h, .int .i64 p, .int .i64 m, .slice A0 l.length c0] 26)).heap[w.heap.size]? = some (.cells #[.bool h, .int .i64 p, .int .i64 m, .slice A0 l.length c0] 26 (0, 0))) := ⟨heap_alloc_new _ _⟩
  generalize w.alloc (.cells #[.bool h, .int .i64 p, .int .i64 m, .slice A0 l.length c0] 26) = w1 at HB HR HK ⊢
  obtain ⟨g, hg_⟩ : ∃ g_, w.heap.size = g_ := ⟨_, rfl⟩
  rw [hg_] at HK ⊢
  have HG_ := Aside0.mk hg_
  clear hg_
  go_upto_region 2 with (first | (go_at_call 18; refine (alive_any _).mono ?_; rintro e w2 ⟨rfl, hb⟩; have m0_ := Aside0.mk (below_step HB.out hb); have m1_ := Aside0.mk (Kd.C_below HR.out hb); have m2_ := Aside0.mk (blk_below HK.out hb); clear HB HR HK; have HB := m0_; have HR := m1_; have HK := m2_; clear m0_ m1_ m2_; clear hb) | fail)
  obtain ⟨k0, k1, k2, k3⟩ := blk4 HK.out
  subst hop
  have HLD := Aside0.mk hld
  have HCK := Aside0.mk hck
  clear hld hck
  have c1 : decide (2000 < (l.length : Int)) = false := decide_eq_false (by omega)
  have c2 : decide (2000 < l.length) = false := decide_eq_false (by omega)
  have HST := Aside0.mk hst
  clear hst
  go_upto_region 5 with (first | (go_at_call 19; refine (mem_Store.calls _ _ _ _ _ _ _ _ _ _ _ _ _ _ _ _ _ _ HR.out HC.out HST.out).mono ?_; rintro e w3 ⟨v3, rfl, ho, hb⟩; have m0_ := Aside0.mk (below_step HB.out hb); have m1_ := Aside0.mk (Kd.C_below HR.out hb); have m2_ := Aside0.mk (blk_below HK.out hb); clear HB HR HK; have HB := m0_; have HR := m1_; have HK := m2_; clear m0_ m1_ m2_; obtain ⟨A3, c3, rfl⟩ := Kd.R_slice ho; have HC3 := Aside0.mk (Kd.R_reads' ho).2.2; have HL3 := Aside0.mk (Kd.R_reads' ho).2.1; clear ho; clear hb) | fail)
  have m0_ := Aside0.mk (HB.out.alloc HB.out.size (.cells #[.bool h, .int .i64 p, .int .i64 m, .slice A3 lw.length c3] 26))
  have m1_ := Aside0.mk (Kd.C_alloc HR.out (.cells #[.bool h, .int .i64 p, .int .i64 m, .slice A3 lw.length c3] 26))
  have m2_ := Aside0.mk (blk_alloc HK.out (.cells #[.bool h, .int .i64 p, .int .i64 m, .slice A3 lw.length c3] 26))
  have m3_ := Aside0.mk (Kd.C_alloc HC3.out (.cells #[.bool h, .int .i64 p, .int .i64 m, .slice A3 lw.length c3] 26))
  clear HB HR HK HC3
  have HB := m0_
  have HR := m1_
  have HK := m2_
  have HC3 := m3_
  clear m0_ m1_ m2_ m3_
  have HK3 : Aside0 ((w3.alloc (.cells #[.bool h, .int .i64 p, .int .i64 m, .slice A3 lw.length c3] 26)).heap[w3.heap.size]? = some (.cells #[.bool h, .int .i64 p, .int .i64 m, .slice A3 lw.length c3] 26 (0, 0))) := ⟨heap_alloc_new _ _⟩
  generalize w3.alloc (.cells #[.bool h, .int .i64 p, .int .i64 m, .slice A3 lw.length c3] 26) = w4 at HB HR HK HC3 HK3 ⊢
  generalize w3.heap.size = g3 at HK3 ⊢
  clear k0 k1 k2 k3
  obtain ⟨k0, k1, k2, k3⟩ := blk4 HK.out
  obtain ⟨j0, j1, j2, j3⟩ := blk4 HK3.out
  go_wp2_with (first | ((go_at_call 20; refine (memLoad_calls _ _ _ _ _ _ _ _ _ _ _ _ _ _ HC3.out HL3.out HLD.out).mono ?_; rintro e w5 ⟨rfl, hb⟩; have m0_ := Aside0.mk (below_step HB.out hb); have m1_ := Aside0.mk (Kd.C_below HR.out hb); have m2_ := Aside0.mk (blk_below HK.out hb); have m3_ := Aside0.mk (Kd.C_below HC3.out hb); have m4_ := Aside0.mk (blk_below HK3.out hb); clear HB HR HK HC3 HK3; have HB := m0_; have HR := m1_; have HK := m2_; have HC3 := m3_; have HK3 := m4_; clear m0_ m1_ m2_ m3_ m4_; clear hb); (obtain ⟨i0, i1, i2, i3⟩ := blk4 HK3.out)) | (go_at_call 21; refine (mem_Check.calls _ _ _ _ _ _ _ _ _ HC3.out HL3.out HCK.out).mono ?_; rintro e w6 ⟨rfl, hb⟩; have m0_ := Aside0.mk (below_step HB.out hb); have m1_ := Aside0.mk (Kd.C_below HR.out hb); have m2_ := Aside0.mk (blk_below HK.out hb); have m3_ := Aside0.mk (Kd.C_below HC3.out hb); have m4_ := Aside0.mk (blk_below HK3.out hb); clear HB HR HK HC3 HK3; have HB := m0_; have HR := m1_; have HK := m2_; have HC3 := m3_; have HK3 := m4_; clear m0_ m1_ m2_ m3_ m4_; clear hb) | fail)
  go_ret
  exact ⟨rfl, HB.out⟩
set_option maxHeartbeats 8000000 in
set_option maxRecDepth 100000 in
theorem memBack_62 (A0 : Option Addr) (c0 : Nat) (l : List S40) (h : Bool) (p m op base off n : Int) (w : World) (hr0 : Kd.C k40 w A0 l.length l) (hc0 : l.length ≤ c0) (hsm : l.length ≤ 2000) (K : Nat) (hop : op = 62) (lw : List S40) (hst : mem_Store.f K h p m l op base off n = some (h, p, m, lw, 0, 0)) (hld : memLoadF K h p m lw 53 base off = some (Go.bits .and .i64 n (4294967295), 0, 0)) (hck : mem_Check.f K h p m lw = some 0) :
    Calls Try.prog 4 #[.agg #[.bool h, .int .i64 p, .int .i64 m, .slice A0 l.length c0], .int .u8 op, .int .i64 base, .int .i64 off, .int .i64 n] w fun e w' => e = .returned (.bool true) ∧ Below w.heap.size w w' := by
  have HB := Aside0.mk (Below.refl w.heap.size w)
  have HR := Aside0.mk hr0
  have HC := Aside0.mk hc0
  clear hr0 hc0
  go_enter Try.func4, Try.ntmps4
  go_upto_region 1 with (fail)
  have m0_ := Aside0.mk (HB.out.alloc HB.out.size (.cells #[.bool h, .int .i64 p, .int .i64 m, .slice A0 l.length c0] 26))
  have m1_ := Aside0.mk (Kd.C_alloc HR.out (.cells #[.bool h, .int .i64 p, .int .i64 m, .slice A0 l.length c0] 26))
  clear HB HR
  have HB := m0_
  have HR := m1_
  clear m0_ m1_
  have HK : Aside0 ((w.alloc (.cells #[.bool h, .int .i64 p, .int .i64 m, .slice A0 l.length c0] 26)).heap[w.heap.size]? = some (.cells #[.bool h, .int .i64 p, .int .i64 m, .slice A0 l.length c0] 26 (0, 0))) := ⟨heap_alloc_new _ _⟩
  generalize w.alloc (.cells #[.bool h, .int .i64 p, .int .i64 m, .slice A0 l.length c0] 26) = w1 at HB HR HK ⊢
  obtain ⟨g, hg_⟩ : ∃ g_, w.heap.size = g_ := ⟨_, rfl⟩
  rw [hg_] at HK ⊢
  have HG_ := Aside0.mk hg_
  clear hg_
  go_upto_region 2 with (first | (go_at_call 18; refine (alive_any _).mono ?_; rintro e w2 ⟨rfl, hb⟩; have m0_ := Aside0.mk (below_step HB.out hb); have m1_ := Aside0.mk (Kd.C_below HR.out hb); have m2_ := Aside0.mk (blk_below HK.out hb); clear HB HR HK; have HB := m0_; have HR := m1_; have HK := m2_; clear m0_ m1_ m2_; clear hb) | fail)
  obtain ⟨k0, k1, k2, k3⟩ := blk4 HK.out
  subst hop
  have HLD := Aside0.mk hld
  have HCK := Aside0.mk hck
  clear hld hck
  have c1 : decide (2000 < (l.length : Int)) = false := decide_eq_false (by omega)
  have c2 : decide (2000 < l.length) = false := decide_eq_false (by omega)
  have HST := Aside0.mk hst
  clear hst
  go_upto_region 5 with (first | (go_at_call 19; refine (mem_Store.calls _ _ _ _ _ _ _ _ _ _ _ _ _ _ _ _ _ _ HR.out HC.out HST.out).mono ?_; rintro e w3 ⟨v3, rfl, ho, hb⟩; have m0_ := Aside0.mk (below_step HB.out hb); have m1_ := Aside0.mk (Kd.C_below HR.out hb); have m2_ := Aside0.mk (blk_below HK.out hb); clear HB HR HK; have HB := m0_; have HR := m1_; have HK := m2_; clear m0_ m1_ m2_; obtain ⟨A3, c3, rfl⟩ := Kd.R_slice ho; have HC3 := Aside0.mk (Kd.R_reads' ho).2.2; have HL3 := Aside0.mk (Kd.R_reads' ho).2.1; clear ho; clear hb) | fail)
  have m0_ := Aside0.mk (HB.out.alloc HB.out.size (.cells #[.bool h, .int .i64 p, .int .i64 m, .slice A3 lw.length c3] 26))
  have m1_ := Aside0.mk (Kd.C_alloc HR.out (.cells #[.bool h, .int .i64 p, .int .i64 m, .slice A3 lw.length c3] 26))
  have m2_ := Aside0.mk (blk_alloc HK.out (.cells #[.bool h, .int .i64 p, .int .i64 m, .slice A3 lw.length c3] 26))
  have m3_ := Aside0.mk (Kd.C_alloc HC3.out (.cells #[.bool h, .int .i64 p, .int .i64 m, .slice A3 lw.length c3] 26))
  clear HB HR HK HC3
  have HB := m0_
  have HR := m1_
  have HK := m2_
  have HC3 := m3_
  clear m0_ m1_ m2_ m3_
  have HK3 : Aside0 ((w3.alloc (.cells #[.bool h, .int .i64 p, .int .i64 m, .slice A3 lw.length c3] 26)).heap[w3.heap.size]? = some (.cells #[.bool h, .int .i64 p, .int .i64 m, .slice A3 lw.length c3] 26 (0, 0))) := ⟨heap_alloc_new _ _⟩
  generalize w3.alloc (.cells #[.bool h, .int .i64 p, .int .i64 m, .slice A3 lw.length c3] 26) = w4 at HB HR HK HC3 HK3 ⊢
  generalize w3.heap.size = g3 at HK3 ⊢
  clear k0 k1 k2 k3
  obtain ⟨k0, k1, k2, k3⟩ := blk4 HK.out
  obtain ⟨j0, j1, j2, j3⟩ := blk4 HK3.out
  go_wp2_with (first | ((go_at_call 20; refine (memLoad_calls _ _ _ _ _ _ _ _ _ _ _ _ _ _ HC3.out HL3.out HLD.out).mono ?_; rintro e w5 ⟨rfl, hb⟩; have m0_ := Aside0.mk (below_step HB.out hb); have m1_ := Aside0.mk (Kd.C_below HR.out hb); have m2_ := Aside0.mk (blk_below HK.out hb); have m3_ := Aside0.mk (Kd.C_below HC3.out hb); have m4_ := Aside0.mk (blk_below HK3.out hb); clear HB HR HK HC3 HK3; have HB := m0_; have HR := m1_; have HK := m2_; have HC3 := m3_; have HK3 := m4_; clear m0_ m1_ m2_ m3_ m4_; clear hb); (obtain ⟨i0, i1, i2, i3⟩ := blk4 HK3.out)) | (go_at_call 21; refine (mem_Check.calls _ _ _ _ _ _ _ _ _ HC3.out HL3.out HCK.out).mono ?_; rintro e w6 ⟨rfl, hb⟩; have m0_ := Aside0.mk (below_step HB.out hb); have m1_ := Aside0.mk (Kd.C_below HR.out hb); have m2_ := Aside0.mk (blk_below HK.out hb); have m3_ := Aside0.mk (Kd.C_below HC3.out hb); have m4_ := Aside0.mk (blk_below HK3.out hb); clear HB HR HK HC3 HK3; have HB := m0_; have HR := m1_; have HK := m2_; have HC3 := m3_; have HK3 := m4_; clear m0_ m1_ m2_ m3_ m4_; clear hb) | fail)
  go_ret
  exact ⟨rfl, HB.out⟩
end Go.Proofs.Ytidojlacnamabaa
