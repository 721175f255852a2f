/-
  MemGrows' own walk, way by way. No statement is proved here.
-/
import Derived.Test.YtidojlacnamabaaMemS
namespace Go.Proofs.Ytidojlacnamabaa
open Go.RowKit Go.Proofs.Ytidojlacnamabaa.PAll Go.Proofs.YtidojlacnamabaaW.PrintWords Go.Proofs.YtidojlacnamabaaW.PrintLast Go.Proofs.YtidojlacnamabaaW.PrintMore
set_option linter.unusedVariables false
set_option maxHeartbeats 8000000 in
set_option maxRecDepth 100000 in
theorem memGrows_1 (A0 : Option Addr) (c0 : Nat) (l : List S40) (h : Bool) (p m n x : Int) (w : World) (hr0 : Kd.C k40 w A0 l.length l) (hc0 : l.length ≤ c0) (hbig : 2000 < l.length) :
    Calls Try.prog 8 #[.agg #[.bool h, .int .i64 p, .int .i64 m, .slice A0 l.length c0], .int .i64 n, .int .u16 x] w fun e w' => e = .returned (.bool true) ∧ Below w.heap.size w w' := by
  have HB := Aside0.mk (Below.refl w.heap.size w)
  have HR := Aside0.mk hr0
  have HC := Aside0.mk hc0
  clear hr0 hc0
  go_enter Try.func8, Try.ntmps8
  go_upto_region 1 with (fail)
  have m0_ := Aside0.mk (HB.out.alloc HB.out.size (.cells #[.bool h, .int .i64 p, .int .i64 m, .slice A0 l.length c0] 26))
  have m1_ := Aside0.mk (Kd.C_alloc HR.out (.cells #[.bool h, .int .i64 p, .int .i64 m, .slice A0 l.length c0] 26))
  clear HB HR
  have HB := m0_
  have HR := m1_
  clear m0_ m1_
  have HK : Aside0 ((w.alloc (.cells #[.bool h, .int .i64 p, .int .i64 m, .slice A0 l.length c0] 26)).heap[w.heap.size]? = some (.cells #[.bool h, .int .i64 p, .int .i64 m, .slice A0 l.length c0] 26 (0, 0))) := ⟨heap_alloc_new _ _⟩
  generalize w.alloc (.cells #[.bool h, .int .i64 p, .int .i64 m, .slice A0 l.length c0] 26) = w1 at HB HR HK ⊢
  obtain ⟨g, hg_⟩ : ∃ g_, w.heap.size = g_ := ⟨_, rfl⟩
  rw [hg_] at HK ⊢
  have HG_ := Aside0.mk hg_
  clear hg_
  go_upto_region 2 with (first | (go_at_call 18; refine (alive_any _).mono ?_; rintro e w2 ⟨rfl, hb⟩; have m0_ := Aside0.mk (below_step HB.out hb); have m1_ := Aside0.mk (Kd.C_below HR.out hb); have m2_ := Aside0.mk (blk_below HK.out hb); clear HB HR HK; have HB := m0_; have HR := m1_; have HK := m2_; clear m0_ m1_ m2_; clear hb) | fail)
  obtain ⟨k0, k1, k2, k3⟩ := blk4 HK.out
  have c1 : decide (2000 < (l.length : Int)) = true := decide_eq_true (by omega)
  have c2 : decide (2000 < l.length) = true := decide_eq_true hbig
  go_wp2
  go_ret
  exact ⟨rfl, HB.out⟩
set_option maxHeartbeats 8000000 in
set_option maxRecDepth 100000 in
theorem memGrows_2 (A0 : Option Addr) (c0 : Nat) (l : List S40) (h : Bool) (p m n x : Int) (w : World) (hr0 : Kd.C k40 w A0 l.length l) (hc0 : l.length ≤ c0) (hsm : l.length ≤ 2000) (K : Nat) (e_ : Int) (he : e_ ≠ 0) (hgr : memGrowF K h p m l n = some (false, 0, 0, [], 0, e_)) :
    Calls Try.prog 8 #[.agg #[.bool h, .int .i64 p, .int .i64 m, .slice A0 l.length c0], .int .i64 n, .int .u16 x] w fun e w' => e = .returned (.bool true) ∧ Below w.heap.size w w' := by
  have HB := Aside0.mk (Below.refl w.heap.size w)
  have HR := Aside0.mk hr0
  have HC := Aside0.mk hc0
  clear hr0 hc0
  have HGR := Aside0.mk hgr
  clear hgr
  go_enter Try.func8, Try.ntmps8
  go_upto_region 1 with (fail)
  have m0_ := Aside0.mk (HB.out.alloc HB.out.size (.cells #[.bool h, .int .i64 p, .int .i64 m, .slice A0 l.length c0] 26))
  have m1_ := Aside0.mk (Kd.C_alloc HR.out (.cells #[.bool h, .int .i64 p, .int .i64 m, .slice A0 l.length c0] 26))
  clear HB HR
  have HB := m0_
  have HR := m1_
  clear m0_ m1_
  have HK : Aside0 ((w.alloc (.cells #[.bool h, .int .i64 p, .int .i64 m, .slice A0 l.length c0] 26)).heap[w.heap.size]? = some (.cells #[.bool h, .int .i64 p, .int .i64 m, .slice A0 l.length c0] 26 (0, 0))) := ⟨heap_alloc_new _ _⟩
  generalize w.alloc (.cells #[.bool h, .int .i64 p, .int .i64 m, .slice A0 l.length c0] 26) = w1 at HB HR HK ⊢
  obtain ⟨g, hg_⟩ : ∃ g_, w.heap.size = g_ := ⟨_, rfl⟩
  rw [hg_] at HK ⊢
  have HG_ := Aside0.mk hg_
  clear hg_
  go_upto_region 2 with (first | (go_at_call 18; refine (alive_any _).mono ?_; rintro e w2 ⟨rfl, hb⟩; have m0_ := Aside0.mk (below_step HB.out hb); have m1_ := Aside0.mk (Kd.C_below HR.out hb); have m2_ := Aside0.mk (blk_below HK.out hb); clear HB HR HK; have HB := m0_; have HR := m1_; have HK := m2_; clear m0_ m1_ m2_; clear hb) | fail)
  obtain ⟨k0, k1, k2, k3⟩ := blk4 HK.out
  have c1 : decide (2000 < (l.length : Int)) = false := decide_eq_false (by omega)
  have c2 : decide (2000 < l.length) = false := decide_eq_false (by omega)
  go_upto_region 5 with (first | (go_at_call 25; refine (memGrow_calls _ _ _ _ _ _ _ _ _ _ _ _ _ _ _ HR.out HC.out HGR.out).mono ?_; rintro e w3 ⟨v3, rfl, ho, hb⟩; have m0_ := Aside0.mk (below_step HB.out hb); have m1_ := Aside0.mk (Kd.C_below HR.out hb); have m2_ := Aside0.mk (blk_below HK.out hb); clear HB HR HK; have HB := m0_; have HR := m1_; have HK := m2_; clear m0_ m1_ m2_; obtain ⟨A3, c3, rfl⟩ := Kd.R_slice ho; have HC3 := Aside0.mk (Kd.R_reads' ho).2.2; have HL3 := Aside0.mk (Kd.R_reads' ho).2.1; clear ho; clear hb) | fail)
  have m0_ := Aside0.mk (HB.out.alloc HB.out.size (.cells #[.bool false, .int .i64 0, .int .i64 0, .slice A3 0 c3] 26))
  have m1_ := Aside0.mk (Kd.C_alloc HR.out (.cells #[.bool false, .int .i64 0, .int .i64 0, .slice A3 0 c3] 26))
  have m2_ := Aside0.mk (blk_alloc HK.out (.cells #[.bool false, .int .i64 0, .int .i64 0, .slice A3 0 c3] 26))
  have m3_ := Aside0.mk (Kd.C_alloc HC3.out (.cells #[.bool false, .int .i64 0, .int .i64 0, .slice A3 0 c3] 26))
  clear HB HR HK HC3
  have HB := m0_
  have HR := m1_
  have HK := m2_
  have HC3 := m3_
  clear m0_ m1_ m2_ m3_
  have HK3 : Aside0 ((w3.alloc (.cells #[.bool false, .int .i64 0, .int .i64 0, .slice A3 0 c3] 26)).heap[w3.heap.size]? = some (.cells #[.bool false, .int .i64 0, .int .i64 0, .slice A3 0 c3] 26 (0, 0))) := ⟨heap_alloc_new _ _⟩
  generalize w3.alloc (.cells #[.bool false, .int .i64 0, .int .i64 0, .slice A3 0 c3] 26) = w4 at HB HR HK HC3 HK3 ⊢
  generalize w3.heap.size = g3 at HK3 ⊢
  clear k0 k1 k2 k3
  obtain ⟨k0, k1, k2, k3⟩ := blk4 HK.out
  obtain ⟨j0, j1, j2, j3⟩ := blk4 HK3.out
  have e1 : (e_ == 0) = false := beq_eq_false_iff_ne.mpr he
  have e2 : (e_ != 0) = true := bne_iff_ne.mpr he
  go_wp2
  go_ret
  exact ⟨rfl, HB.out⟩
set_option maxHeartbeats 8000000 in
set_option maxRecDepth 100000 in
theorem memGrows_3 (A0 : Option Addr) (c0 : Nat) (l : List S40) (h : Bool) (p m n x : Int) (w : World) (hr0 : Kd.C k40 w A0 l.length l) (hc0 : l.length ≤ c0) (hsm : l.length ≤ 2000) (K : Nat) (hn : n < 0) (hgr : memGrowF K h p m l n = some (h, p, m, l, -1, 0)) (hsa : bytebarnref13_Same.f K h p m l h p m l = some true) :
    Calls Try.prog 8 #[.agg #[.bool h, .int .i64 p, .int .i64 m, .slice A0 l.length c0], .int .i64 n, .int .u16 x] w fun e w' => e = .returned (.bool true) ∧ Below w.heap.size w w' := by
  have HB := Aside0.mk (Below.refl w.heap.size w)
  have HR := Aside0.mk hr0
  have HC := Aside0.mk hc0
  clear hr0 hc0
  have HGR := Aside0.mk hgr
  clear hgr
  have HSA := Aside0.mk hsa
  clear hsa
  go_enter Try.func8, Try.ntmps8
  go_upto_region 1 with (fail)
  have m0_ := Aside0.mk (HB.out.alloc HB.out.size (.cells #[.bool h, .int .i64 p, .int .i64 m, .slice A0 l.length c0] 26))
  have m1_ := Aside0.mk (Kd.C_alloc HR.out (.cells #[.bool h, .int .i64 p, .int .i64 m, .slice A0 l.length c0] 26))
  clear HB HR
  have HB := m0_
  have HR := m1_
  clear m0_ m1_
  have HK : Aside0 ((w.alloc (.cells #[.bool h, .int .i64 p, .int .i64 m, .slice A0 l.length c0] 26)).heap[w.heap.size]? = some (.cells #[.bool h, .int .i64 p, .int .i64 m, .slice A0 l.length c0] 26 (0, 0))) := ⟨heap_alloc_new _ _⟩
  generalize w.alloc (.cells #[.bool h, .int .i64 p, .int .i64 m, .slice A0 l.length c0] 26) = w1 at HB HR HK ⊢
  obtain ⟨g, hg_⟩ : ∃ g_, w.heap.size = g_ := ⟨_, rfl⟩
  rw [hg_] at HK ⊢
  have HG_ := Aside0.mk hg_
  clear hg_
  go_upto_region 2 with (first | (go_at_call 18; refine (alive_any _).mono ?_; rintro e w2 ⟨rfl, hb⟩; have m0_ := Aside0.mk (below_step HB.out hb); have m1_ := Aside0.mk (Kd.C_below HR.out hb); have m2_ := Aside0.mk (blk_below HK.out hb); clear HB HR HK; have HB := m0_; have HR := m1_; have HK := m2_; clear m0_ m1_ m2_; clear hb) | fail)
  obtain ⟨k0, k1, k2, k3⟩ := blk4 HK.out
  have n1 : decide (n < 0) = true := decide_eq_true hn
  have c1 : decide (2000 < (l.length : Int)) = false := decide_eq_false (by omega)
  have c2 : decide (2000 < l.length) = false := decide_eq_false (by omega)
  go_upto_region 5 with (first | (go_at_call 25; refine (memGrow_calls _ _ _ _ _ _ _ _ _ _ _ _ _ _ _ HR.out HC.out HGR.out).mono ?_; rintro e w3 ⟨v3, rfl, ho, hb⟩; have m0_ := Aside0.mk (below_step HB.out hb); have m1_ := Aside0.mk (Kd.C_below HR.out hb); have m2_ := Aside0.mk (blk_below HK.out hb); clear HB HR HK; have HB := m0_; have HR := m1_; have HK := m2_; clear m0_ m1_ m2_; obtain ⟨A3, c3, rfl⟩ := Kd.R_slice ho; have HC3 := Aside0.mk (Kd.R_reads' ho).2.2; have HL3 := Aside0.mk (Kd.R_reads' ho).2.1; clear ho; clear hb) | fail)
  have m0_ := Aside0.mk (HB.out.alloc HB.out.size (.cells #[.bool h, .int .i64 p, .int .i64 m, .slice A3 l.length c3] 26))
  have m1_ := Aside0.mk (Kd.C_alloc HR.out (.cells #[.bool h, .int .i64 p, .int .i64 m, .slice A3 l.length c3] 26))
  have m2_ := Aside0.mk (blk_alloc HK.out (.cells #[.bool h, .int .i64 p, .int .i64 m, .slice A3 l.length c3] 26))
  have m3_ := Aside0.mk (Kd.C_alloc HC3.out (.cells #[.bool h, .int .i64 p, .int .i64 m, .slice A3 l.length c3] 26))
  clear HB HR HK HC3
  have HB := m0_
  have HR := m1_
  have HK := m2_
  have HC3 := m3_
  clear m0_ m1_ m2_ m3_
  have HK3 : Aside0 ((w3.alloc (.cells #[.bool h, .int .i64 p, .int .i64 m, .slice A3 l.length c3] 26)).heap[w3.heap.size]? = some (.cells #[.bool h, .int .i64 p, .int .i64 m, .slice A3 l.length c3] 26 (0, 0))) := ⟨heap_alloc_new _ _⟩
  generalize w3.alloc (.cells #[.bool h, .int .i64 p, .int .i64 m, .slice A3 l.length c3] 26) = w4 at HB HR HK HC3 HK3 ⊢
  generalize w3.heap.size = g3 at HK3 ⊢
  clear k0 k1 k2 k3
  obtain ⟨k0, k1, k2, k3⟩ := blk4 HK.out
  obtain ⟨j0, j1, j2, j3⟩ := blk4 HK3.out
  go_wp2_with (first | ((go_at_call 15; refine (bytebarnref13_Same.calls _ _ _ _ _ _ _ _ _ _ _ _ _ _ _ HC3.out HL3.out HR.out HC.out HSA.out).mono ?_; rintro e w5 ⟨rfl, hb⟩; have m0_ := Aside0.mk (below_step HB.out hb); have m1_ := Aside0.mk (Kd.C_below HR.out hb); have m2_ := Aside0.mk (blk_below HK.out hb); have m3_ := Aside0.mk (Kd.C_below HC3.out hb); have m4_ := Aside0.mk (blk_below HK3.out hb); clear HB HR HK HC3 HK3; have HB := m0_; have HR := m1_; have HK := m2_; have HC3 := m3_; have HK3 := m4_; clear m0_ m1_ m2_ m3_ m4_; clear hb); (obtain ⟨k0, k1, k2, k3⟩ := blk4 HK.out)) | fail)
  go_ret
  exact ⟨rfl, HB.out⟩
set_option maxHeartbeats 8000000 in
set_option maxRecDepth 100000 in
theorem memGrows_4 (A0 : Option Addr) (c0 : Nat) (l : List S40) (h : Bool) (p m n x : Int) (w : World) (hr0 : Kd.C k40 w A0 l.length l) (hc0 : l.length ≤ c0) (hsm : l.length ≤ 2000) (K : Nat) (hn : 0 ≤ n) (hw : wrap64 (p + n) = p + n) (hpm : m < p + n) (hgr : memGrowF K h p m l n = some (h, p, m, l, -1, 0)) (hsa : bytebarnref13_Same.f K h p m l h p m l = some true) :
    Calls Try.prog 8 #[.agg #[.bool h, .int .i64 p, .int .i64 m, .slice A0 l.length c0], .int .i64 n, .int .u16 x] w fun e w' => e = .returned (.bool true) ∧ Below w.heap.size w w' := by
  have HB := Aside0.mk (Below.refl w.heap.size w)
  have HR := Aside0.mk hr0
  have HC := Aside0.mk hc0
  clear hr0 hc0
  have HGR := Aside0.mk hgr
  clear hgr
  have HSA := Aside0.mk hsa
  clear hsa
  go_enter Try.func8, Try.ntmps8
  go_upto_region 1 with (fail)
  have m0_ := Aside0.mk (HB.out.alloc HB.out.size (.cells #[.bool h, .int .i64 p, .int .i64 m, .slice A0 l.length c0] 26))
  have m1_ := Aside0.mk (Kd.C_alloc HR.out (.cells #[.bool h, .int .i64 p, .int .i64 m, .slice A0 l.length c0] 26))
  clear HB HR
  have HB := m0_
  have HR := m1_
  clear m0_ m1_
  have HK : Aside0 ((w.alloc (.cells #[.bool h, .int .i64 p, .int .i64 m, .slice A0 l.length c0] 26)).heap[w.heap.size]? = some (.cells #[.bool h, .int .i64 p, .int .i64 m, .slice A0 l.length c0] 26 (0, 0))) := ⟨heap_alloc_new _ _⟩
  generalize w.alloc (.cells #[.bool h, .int .i64 p, .int .i64 m, .slice A0 l.length c0] 26) = w1 at HB HR HK ⊢
  obtain ⟨g, hg_⟩ : ∃ g_, w.heap.size = g_ := ⟨_, rfl⟩
  rw [hg_] at HK ⊢
  have HG_ := Aside0.mk hg_
  clear hg_
  go_upto_region 2 with (first | (go_at_call 18; refine (alive_any _).mono ?_; rintro e w2 ⟨rfl, hb⟩; have m0_ := Aside0.mk (below_step HB.out hb); have m1_ := Aside0.mk (Kd.C_below HR.out hb); have m2_ := Aside0.mk (blk_below HK.out hb); clear HB HR HK; have HB := m0_; have HR := m1_; have HK := m2_; clear m0_ m1_ m2_; clear hb) | fail)
  obtain ⟨k0, k1, k2, k3⟩ := blk4 HK.out
  have n1 : decide (n < 0) = false := decide_eq_false (by omega)
  have n2 : decide (m < p + n) = true := decide_eq_true hpm
  have c1 : decide (2000 < (l.length : Int)) = false := decide_eq_false (by omega)
  have c2 : decide (2000 < l.length) = false := decide_eq_false (by omega)
  go_upto_region 5 with (first | (go_at_call 25; refine (memGrow_calls _ _ _ _ _ _ _ _ _ _ _ _ _ _ _ HR.out HC.out HGR.out).mono ?_; rintro e w3 ⟨v3, rfl, ho, hb⟩; have m0_ := Aside0.mk (below_step HB.out hb); have m1_ := Aside0.mk (Kd.C_below HR.out hb); have m2_ := Aside0.mk (blk_below HK.out hb); clear HB HR HK; have HB := m0_; have HR := m1_; have HK := m2_; clear m0_ m1_ m2_; obtain ⟨A3, c3, rfl⟩ := Kd.R_slice ho; have HC3 := Aside0.mk (Kd.R_reads' ho).2.2; have HL3 := Aside0.mk (Kd.R_reads' ho).2.1; clear ho; clear hb) | fail)
  have m0_ := Aside0.mk (HB.out.alloc HB.out.size (.cells #[.bool h, .int .i64 p, .int .i64 m, .slice A3 l.length c3] 26))
  have m1_ := Aside0.mk (Kd.C_alloc HR.out (.cells #[.bool h, .int .i64 p, .int .i64 m, .slice A3 l.length c3] 26))
  have m2_ := Aside0.mk (blk_alloc HK.out (.cells #[.bool h, .int .i64 p, .int .i64 m, .slice A3 l.length c3] 26))
  have m3_ := Aside0.mk (Kd.C_alloc HC3.out (.cells #[.bool h, .int .i64 p, .int .i64 m, .slice A3 l.length c3] 26))
  clear HB HR HK HC3
  have HB := m0_
  have HR := m1_
  have HK := m2_
  have HC3 := m3_
  clear m0_ m1_ m2_ m3_
  have HK3 : Aside0 ((w3.alloc (.cells #[.bool h, .int .i64 p, .int .i64 m, .slice A3 l.length c3] 26)).heap[w3.heap.size]? = some (.cells #[.bool h, .int .i64 p, .int .i64 m, .slice A3 l.length c3] 26 (0, 0))) := ⟨heap_alloc_new _ _⟩
  generalize w3.alloc (.cells #[.bool h, .int .i64 p, .int .i64 m, .slice A3 l.length c3] 26) = w4 at HB HR HK HC3 HK3 ⊢
  generalize w3.heap.size = g3 at HK3 ⊢
  clear k0 k1 k2 k3
  obtain ⟨k0, k1, k2, k3⟩ := blk4 HK.out
  obtain ⟨j0, j1, j2, j3⟩ := blk4 HK3.out
  go_wp2_with (first | ((go_at_call 15; refine (bytebarnref13_Same.calls _ _ _ _ _ _ _ _ _ _ _ _ _ _ _ HC3.out HL3.out HR.out HC.out HSA.out).mono ?_; rintro e w5 ⟨rfl, hb⟩; have m0_ := Aside0.mk (below_step HB.out hb); have m1_ := Aside0.mk (Kd.C_below HR.out hb); have m2_ := Aside0.mk (blk_below HK.out hb); have m3_ := Aside0.mk (Kd.C_below HC3.out hb); have m4_ := Aside0.mk (blk_below HK3.out hb); clear HB HR HK HC3 HK3; have HB := m0_; have HR := m1_; have HK := m2_; have HC3 := m3_; have HK3 := m4_; clear m0_ m1_ m2_ m3_ m4_; clear hb); (obtain ⟨k0, k1, k2, k3⟩ := blk4 HK.out)) | fail)
  go_ret
  exact ⟨rfl, HB.out⟩
set_option maxHeartbeats 8000000 in
set_option maxRecDepth 100000 in
theorem memGrows_5 (A0 : Option Addr) (c0 : Nat) (l : List S40) (h : Bool) (p m n x : Int) (w : World) (hr0 : Kd.C k40 w A0 l.length l) (hc0 : l.length ≤ c0) (hsm : l.length ≤ 2000) (K : Nat) (q s z : Int) (hx0 : 0 ≤ x) (hx1 : x < 65536) (hp : 0 ≤ p) (hn : p ≤ q) (hq : wrap64 (p + n) = q) (hs_ : wrap64 (n + x) = s) (hgr : memGrowF K h p m l n = some (h, q, m, l, p, 0)) (hck : mem_Check.f K h q m l = some 0) (hg2 : memGrowF K h q m l x = some (h, q, m, l, -1, 0)) (hg3 : memGrowF K h p m l s = some (h, p, m, l, -1, 0)) :
    Calls Try.prog 8 #[.agg #[.bool h, .int .i64 p, .int .i64 m, .slice A0 l.length c0], .int .i64 n, .int .u16 x] w fun e w' => e = .returned (.bool true) ∧ Below w.heap.size w w' := by
  have HB := Aside0.mk (Below.refl w.heap.size w)
  have HR := Aside0.mk hr0
  have HC := Aside0.mk hc0
  clear hr0 hc0
  have HGR := Aside0.mk hgr
  clear hgr
  have HCK := Aside0.mk hck
  clear hck
  have HG2 := Aside0.mk hg2
  clear hg2
  have HG3 := Aside0.mk hg3
  clear hg3
  have HP := Aside0.mk hp
  clear hp
  have HN := Aside0.mk hn
  clear hn
  have HQ := Aside0.mk hq
  clear hq
  have HS_ := Aside0.mk hs_
  clear hs_
  go_enter Try.func8, Try.ntmps8
  go_upto_region 1 with (fail)
  have m0_ := Aside0.mk (HB.out.alloc HB.out.size (.cells #[.bool h, .int .i64 p, .int .i64 m, .slice A0 l.length c0] 26))
  have m1_ := Aside0.mk (Kd.C_alloc HR.out (.cells #[.bool h, .int .i64 p, .int .i64 m, .slice A0 l.length c0] 26))
  clear HB HR
  have HB := m0_
  have HR := m1_
  clear m0_ m1_
  have HK : Aside0 ((w.alloc (.cells #[.bool h, .int .i64 p, .int .i64 m, .slice A0 l.length c0] 26)).heap[w.heap.size]? = some (.cells #[.bool h, .int .i64 p, .int .i64 m, .slice A0 l.length c0] 26 (0, 0))) := ⟨heap_alloc_new _ _⟩
  generalize w.alloc (.cells #[.bool h, .int .i64 p, .int .i64 m, .slice A0 l.length c0] 26) = w1 at HB HR HK ⊢
  obtain ⟨g, hg_⟩ : ∃ g_, w.heap.size = g_ := ⟨_, rfl⟩
  rw [hg_] at HK ⊢
  have HG_ := Aside0.mk hg_
  clear hg_
  go_upto_region 2 with (first | (go_at_call 18; refine (alive_any _).mono ?_; rintro e w2 ⟨rfl, hb⟩; have m0_ := Aside0.mk (below_step HB.out hb); have m1_ := Aside0.mk (Kd.C_below HR.out hb); have m2_ := Aside0.mk (blk_below HK.out hb); clear HB HR HK; have HB := m0_; have HR := m1_; have HK := m2_; clear m0_ m1_ m2_; clear hb) | fail)
  obtain ⟨k0, k1, k2, k3⟩ := blk4 HK.out
  have e2 : (p == -1) = false := beq_eq_false_iff_ne.mpr (by have := HP.out; omega)
  have c1 : decide (2000 < (l.length : Int)) = false := decide_eq_false (by omega)
  have c2 : decide (2000 < l.length) = false := decide_eq_false (by omega)
  go_upto_region 5 with (first | (go_at_call 25; refine (memGrow_calls _ _ _ _ _ _ _ _ _ _ _ _ _ _ _ HR.out HC.out HGR.out).mono ?_; rintro e w3 ⟨v3, rfl, ho, hb⟩; have m0_ := Aside0.mk (below_step HB.out hb); have m1_ := Aside0.mk (Kd.C_below HR.out hb); have m2_ := Aside0.mk (blk_below HK.out hb); clear HB HR HK; have HB := m0_; have HR := m1_; have HK := m2_; clear m0_ m1_ m2_; obtain ⟨A3, c3, rfl⟩ := Kd.R_slice ho; have HC3 := Aside0.mk (Kd.R_reads' ho).2.2; have HL3 := Aside0.mk (Kd.R_reads' ho).2.1; clear ho; clear hb) | fail)
  have m0_ := Aside0.mk (HB.out.alloc HB.out.size (.cells #[.bool h, .int .i64 q, .int .i64 m, .slice A3 l.length c3] 26))
  have m1_ := Aside0.mk (Kd.C_alloc HR.out (.cells #[.bool h, .int .i64 q, .int .i64 m, .slice A3 l.length c3] 26))
  have m2_ := Aside0.mk (blk_alloc HK.out (.cells #[.bool h, .int .i64 q, .int .i64 m, .slice A3 l.length c3] 26))
  have m3_ := Aside0.mk (Kd.C_alloc HC3.out (.cells #[.bool h, .int .i64 q, .int .i64 m, .slice A3 l.length c3] 26))
  clear HB HR HK HC3
  have HB := m0_
  have HR := m1_
  have HK := m2_
  have HC3 := m3_
  clear m0_ m1_ m2_ m3_
  have HK3 : Aside0 ((w3.alloc (.cells #[.bool h, .int .i64 q, .int .i64 m, .slice A3 l.length c3] 26)).heap[w3.heap.size]? = some (.cells #[.bool h, .int .i64 q, .int .i64 m, .slice A3 l.length c3] 26 (0, 0))) := ⟨heap_alloc_new _ _⟩
  generalize w3.alloc (.cells #[.bool h, .int .i64 q, .int .i64 m, .slice A3 l.length c3] 26) = w4 at HB HR HK HC3 HK3 ⊢
  generalize w3.heap.size = g3 at HK3 ⊢
  clear k0 k1 k2 k3
  obtain ⟨k0, k1, k2, k3⟩ := blk4 HK.out
  obtain ⟨j0, j1, j2, j3⟩ := blk4 HK3.out
  have e1 := HQ.out
  have e3 := HS_.out
  go_upto_region 11 with (first | (go_at_call 21; refine (mem_Check.calls _ _ _ _ _ _ _ _ _ HC3.out HL3.out HCK.out).mono ?_; rintro e w5 ⟨rfl, hb⟩; have m0_ := Aside0.mk (below_step HB.out hb); have m1_ := Aside0.mk (Kd.C_below HR.out hb); have m2_ := Aside0.mk (blk_below HK.out hb); have m3_ := Aside0.mk (Kd.C_below HC3.out hb); have m4_ := Aside0.mk (blk_below HK3.out hb); clear HB HR HK HC3 HK3; have HB := m0_; have HR := m1_; have HK := m2_; have HC3 := m3_; have HK3 := m4_; clear m0_ m1_ m2_ m3_ m4_; clear hb) | fail)
  clear k0 k1 k2 k3 j0 j1 j2 j3
  obtain ⟨k0, k1, k2, k3⟩ := blk4 HK.out
  obtain ⟨j0, j1, j2, j3⟩ := blk4 HK3.out
  go_upto_region 12 with (first | (go_at_call 25; refine (memGrow_calls _ _ _ _ _ _ _ _ _ _ _ _ _ _ _ HC3.out HL3.out HG2.out).mono ?_; rintro e w6 ⟨v4, rfl, ho, hb⟩; have m0_ := Aside0.mk (below_step HB.out hb); have m1_ := Aside0.mk (Kd.C_below HR.out hb); have m2_ := Aside0.mk (blk_below HK.out hb); have m3_ := Aside0.mk (Kd.C_below HC3.out hb); have m4_ := Aside0.mk (blk_below HK3.out hb); clear HB HR HK HC3 HK3; have HB := m0_; have HR := m1_; have HK := m2_; have HC3 := m3_; have HK3 := m4_; clear m0_ m1_ m2_ m3_ m4_; obtain ⟨A4, c4, rfl⟩ := Kd.R_slice ho; have HC4 := Aside0.mk (Kd.R_reads' ho).2.2; have HL4 := Aside0.mk (Kd.R_reads' ho).2.1; clear ho; clear hb) | fail)
  have m0_ := Aside0.mk (HB.out.alloc HB.out.size (.cells #[.bool h, .int .i64 q, .int .i64 m, .slice A4 l.length c4] 26))
  have m1_ := Aside0.mk (Kd.C_alloc HR.out (.cells #[.bool h, .int .i64 q, .int .i64 m, .slice A4 l.length c4] 26))
  have m2_ := Aside0.mk (blk_alloc HK.out (.cells #[.bool h, .int .i64 q, .int .i64 m, .slice A4 l.length c4] 26))
  have m3_ := Aside0.mk (Kd.C_alloc HC3.out (.cells #[.bool h, .int .i64 q, .int .i64 m, .slice A4 l.length c4] 26))
  have m4_ := Aside0.mk (blk_alloc HK3.out (.cells #[.bool h, .int .i64 q, .int .i64 m, .slice A4 l.length c4] 26))
  have m5_ := Aside0.mk (Kd.C_alloc HC4.out (.cells #[.bool h, .int .i64 q, .int .i64 m, .slice A4 l.length c4] 26))
  clear HB HR HK HC3 HK3 HC4
  have HB := m0_
  have HR := m1_
  have HK := m2_
  have HC3 := m3_
  have HK3 := m4_
  have HC4 := m5_
  clear m0_ m1_ m2_ m3_ m4_ m5_
  have HK4 : Aside0 ((w6.alloc (.cells #[.bool h, .int .i64 q, .int .i64 m, .slice A4 l.length c4] 26)).heap[w6.heap.size]? = some (.cells #[.bool h, .int .i64 q, .int .i64 m, .slice A4 l.length c4] 26 (0, 0))) := ⟨heap_alloc_new _ _⟩
  generalize w6.alloc (.cells #[.bool h, .int .i64 q, .int .i64 m, .slice A4 l.length c4] 26) = w7 at HB HR HK HC3 HK3 HC4 HK4 ⊢
  generalize w6.heap.size = g4 at HK4 ⊢
  clear k0 k1 k2 k3 j0 j1 j2 j3
  obtain ⟨k0, k1, k2, k3⟩ := blk4 HK.out
  obtain ⟨j0, j1, j2, j3⟩ := blk4 HK3.out
  go_upto_region 13 with (first | (go_at_call 25; refine (memGrow_calls _ _ _ _ _ _ _ _ _ _ _ _ _ _ _ HR.out HC.out HG3.out).mono ?_; rintro e w8 ⟨v5, rfl, ho, hb⟩; have m0_ := Aside0.mk (below_step HB.out hb); have m1_ := Aside0.mk (Kd.C_below HR.out hb); have m2_ := Aside0.mk (blk_below HK.out hb); have m3_ := Aside0.mk (Kd.C_below HC3.out hb); have m4_ := Aside0.mk (blk_below HK3.out hb); have m5_ := Aside0.mk (Kd.C_below HC4.out hb); have m6_ := Aside0.mk (blk_below HK4.out hb); clear HB HR HK HC3 HK3 HC4 HK4; have HB := m0_; have HR := m1_; have HK := m2_; have HC3 := m3_; have HK3 := m4_; have HC4 := m5_; have HK4 := m6_; clear m0_ m1_ m2_ m3_ m4_ m5_ m6_; obtain ⟨A5, c5, rfl⟩ := Kd.R_slice ho; have HC5 := Aside0.mk (Kd.R_reads' ho).2.2; have HL5 := Aside0.mk (Kd.R_reads' ho).2.1; clear ho; clear hb) | fail)
  have m0_ := Aside0.mk (HB.out.alloc HB.out.size (.cells #[.bool h, .int .i64 p, .int .i64 m, .slice A5 l.length c5] 26))
  have m1_ := Aside0.mk (Kd.C_alloc HR.out (.cells #[.bool h, .int .i64 p, .int .i64 m, .slice A5 l.length c5] 26))
  have m2_ := Aside0.mk (blk_alloc HK.out (.cells #[.bool h, .int .i64 p, .int .i64 m, .slice A5 l.length c5] 26))
  have m3_ := Aside0.mk (Kd.C_alloc HC3.out (.cells #[.bool h, .int .i64 p, .int .i64 m, .slice A5 l.length c5] 26))
  have m4_ := Aside0.mk (blk_alloc HK3.out (.cells #[.bool h, .int .i64 p, .int .i64 m, .slice A5 l.length c5] 26))
  have m5_ := Aside0.mk (Kd.C_alloc HC4.out (.cells #[.bool h, .int .i64 p, .int .i64 m, .slice A5 l.length c5] 26))
  have m6_ := Aside0.mk (blk_alloc HK4.out (.cells #[.bool h, .int .i64 p, .int .i64 m, .slice A5 l.length c5] 26))
  have m7_ := Aside0.mk (Kd.C_alloc HC5.out (.cells #[.bool h, .int .i64 p, .int .i64 m, .slice A5 l.length c5] 26))
  clear HB HR HK HC3 HK3 HC4 HK4 HC5
  have HB := m0_
  have HR := m1_
  have HK := m2_
  have HC3 := m3_
  have HK3 := m4_
  have HC4 := m5_
  have HK4 := m6_
  have HC5 := m7_
  clear m0_ m1_ m2_ m3_ m4_ m5_ m6_ m7_
  have HK5 : Aside0 ((w8.alloc (.cells #[.bool h, .int .i64 p, .int .i64 m, .slice A5 l.length c5] 26)).heap[w8.heap.size]? = some (.cells #[.bool h, .int .i64 p, .int .i64 m, .slice A5 l.length c5] 26 (0, 0))) := ⟨heap_alloc_new _ _⟩
  generalize w8.alloc (.cells #[.bool h, .int .i64 p, .int .i64 m, .slice A5 l.length c5] 26) = w9 at HB HR HK HC3 HK3 HC4 HK4 HC5 HK5 ⊢
  generalize w8.heap.size = g5 at HK5 ⊢
  clear k0 k1 k2 k3 j0 j1 j2 j3
  obtain ⟨k0, k1, k2, k3⟩ := blk4 HK.out
  obtain ⟨j0, j1, j2, j3⟩ := blk4 HK4.out
  obtain ⟨i0, i1, i2, i3⟩ := blk4 HK5.out
  go_wp2
  go_ret
  exact ⟨rfl, HB.out⟩
set_option maxHeartbeats 8000000 in
set_option maxRecDepth 100000 in
theorem memGrows_6 (A0 : Option Addr) (c0 : Nat) (l : List S40) (h : Bool) (p m n x : Int) (w : World) (hr0 : Kd.C k40 w A0 l.length l) (hc0 : l.length ≤ c0) (hsm : l.length ≤ 2000) (K : Nat) (q s z : Int) (hx0 : 0 ≤ x) (hx1 : x < 65536) (hp : 0 ≤ p) (hn : p ≤ q) (hq : wrap64 (p + n) = q) (hs_ : wrap64 (n + x) = s) (hgr : memGrowF K h p m l n = some (h, q, m, l, p, 0)) (hck : mem_Check.f K h q m l = some 0) (hg2 : memGrowF K h q m l x = some (h, z, m, l, q, 0)) (hg3 : memGrowF K h p m l s = some (h, z, m, l, p, 0)) (hsa : bytebarnref13_Same.f K h z m l h z m l = some true) :
    Calls Try.prog 8 #[.agg #[.bool h, .int .i64 p, .int .i64 m, .slice A0 l.length c0], .int .i64 n, .int .u16 x] w fun e w' => e = .returned (.bool true) ∧ Below w.heap.size w w' := by
  have HB := Aside0.mk (Below.refl w.heap.size w)
  have HR := Aside0.mk hr0
  have HC := Aside0.mk hc0
  clear hr0 hc0
  have HGR := Aside0.mk hgr
  clear hgr
  have HCK := Aside0.mk hck
  clear hck
  have HG2 := Aside0.mk hg2
  clear hg2
  have HG3 := Aside0.mk hg3
  clear hg3
  have HP := Aside0.mk hp
  clear hp
  have HN := Aside0.mk hn
  clear hn
  have HQ := Aside0.mk hq
  clear hq
  have HS_ := Aside0.mk hs_
  clear hs_
  have HSA := Aside0.mk hsa
  clear hsa
  go_enter Try.func8, Try.ntmps8
  go_upto_region 1 with (fail)
  have m0_ := Aside0.mk (HB.out.alloc HB.out.size (.cells #[.bool h, .int .i64 p, .int .i64 m, .slice A0 l.length c0] 26))
  have m1_ := Aside0.mk (Kd.C_alloc HR.out (.cells #[.bool h, .int .i64 p, .int .i64 m, .slice A0 l.length c0] 26))
  clear HB HR
  have HB := m0_
  have HR := m1_
  clear m0_ m1_
  have HK : Aside0 ((w.alloc (.cells #[.bool h, .int .i64 p, .int .i64 m, .slice A0 l.length c0] 26)).heap[w.heap.size]? = some (.cells #[.bool h, .int .i64 p, .int .i64 m, .slice A0 l.length c0] 26 (0, 0))) := ⟨heap_alloc_new _ _⟩
  generalize w.alloc (.cells #[.bool h, .int .i64 p, .int .i64 m, .slice A0 l.length c0] 26) = w1 at HB HR HK ⊢
  obtain ⟨g, hg_⟩ : ∃ g_, w.heap.size = g_ := ⟨_, rfl⟩
  rw [hg_] at HK ⊢
  have HG_ := Aside0.mk hg_
  clear hg_
  go_upto_region 2 with (first | (go_at_call 18; refine (alive_any _).mono ?_; rintro e w2 ⟨rfl, hb⟩; have m0_ := Aside0.mk (below_step HB.out hb); have m1_ := Aside0.mk (Kd.C_below HR.out hb); have m2_ := Aside0.mk (blk_below HK.out hb); clear HB HR HK; have HB := m0_; have HR := m1_; have HK := m2_; clear m0_ m1_ m2_; clear hb) | fail)
  obtain ⟨k0, k1, k2, k3⟩ := blk4 HK.out
  have e2 : (p == -1) = false := beq_eq_false_iff_ne.mpr (by have := HP.out; omega)
  have c1 : decide (2000 < (l.length : Int)) = false := decide_eq_false (by omega)
  have c2 : decide (2000 < l.length) = false := decide_eq_false (by omega)
  go_upto_region 5 with (first | (go_at_call 25; refine (memGrow_calls _ _ _ _ _ _ _ _ _ _ _ _ _ _ _ HR.out HC.out HGR.out).mono ?_; rintro e w3 ⟨v3, rfl, ho, hb⟩; have m0_ := Aside0.mk (below_step HB.out hb); have m1_ := Aside0.mk (Kd.C_below HR.out hb); have m2_ := Aside0.mk (blk_below HK.out hb); clear HB HR HK; have HB := m0_; have HR := m1_; have HK := m2_; clear m0_ m1_ m2_; obtain ⟨A3, c3, rfl⟩ := Kd.R_slice ho; have HC3 := Aside0.mk (Kd.R_reads' ho).2.2; have HL3 := Aside0.mk (Kd.R_reads' ho).2.1; clear ho; clear hb) | fail)
  have m0_ := Aside0.mk (HB.out.alloc HB.out.size (.cells #[.bool h, .int .i64 q, .int .i64 m, .slice A3 l.length c3] 26))
  have m1_ := Aside0.mk (Kd.C_alloc HR.out (.cells #[.bool h, .int .i64 q, .int .i64 m, .slice A3 l.length c3] 26))
  have m2_ := Aside0.mk (blk_alloc HK.out (.cells #[.bool h, .int .i64 q, .int .i64 m, .slice A3 l.length c3] 26))
  have m3_ := Aside0.mk (Kd.C_alloc HC3.out (.cells #[.bool h, .int .i64 q, .int .i64 m, .slice A3 l.length c3] 26))
  clear HB HR HK HC3
  have HB := m0_
  have HR := m1_
  have HK := m2_
  have HC3 := m3_
  clear m0_ m1_ m2_ m3_
  have HK3 : Aside0 ((w3.alloc (.cells #[.bool h, .int .i64 q, .int .i64 m, .slice A3 l.length c3] 26)).heap[w3.heap.size]? = some (.cells #[.bool h, .int .i64 q, .int .i64 m, .slice A3 l.length c3] 26 (0, 0))) := ⟨heap_alloc_new _ _⟩
  generalize w3.alloc (.cells #[.bool h, .int .i64 q, .int .i64 m, .slice A3 l.length c3] 26) = w4 at HB HR HK HC3 HK3 ⊢
  generalize w3.heap.size = g3 at HK3 ⊢
  clear k0 k1 k2 k3
  obtain ⟨k0, k1, k2, k3⟩ := blk4 HK.out
  obtain ⟨j0, j1, j2, j3⟩ := blk4 HK3.out
  have e1 := HQ.out
  have e3 := HS_.out
  go_upto_region 11 with (first | (go_at_call 21; refine (mem_Check.calls _ _ _ _ _ _ _ _ _ HC3.out HL3.out HCK.out).mono ?_; rintro e w5 ⟨rfl, hb⟩; have m0_ := Aside0.mk (below_step HB.out hb); have m1_ := Aside0.mk (Kd.C_below HR.out hb); have m2_ := Aside0.mk (blk_below HK.out hb); have m3_ := Aside0.mk (Kd.C_below HC3.out hb); have m4_ := Aside0.mk (blk_below HK3.out hb); clear HB HR HK HC3 HK3; have HB := m0_; have HR := m1_; have HK := m2_; have HC3 := m3_; have HK3 := m4_; clear m0_ m1_ m2_ m3_ m4_; clear hb) | fail)
  clear k0 k1 k2 k3 j0 j1 j2 j3
  obtain ⟨k0, k1, k2, k3⟩ := blk4 HK.out
  obtain ⟨j0, j1, j2, j3⟩ := blk4 HK3.out
  go_upto_region 12 with (first | (go_at_call 25; refine (memGrow_calls _ _ _ _ _ _ _ _ _ _ _ _ _ _ _ HC3.out HL3.out HG2.out).mono ?_; rintro e w6 ⟨v4, rfl, ho, hb⟩; have m0_ := Aside0.mk (below_step HB.out hb); have m1_ := Aside0.mk (Kd.C_below HR.out hb); have m2_ := Aside0.mk (blk_below HK.out hb); have m3_ := Aside0.mk (Kd.C_below HC3.out hb); have m4_ := Aside0.mk (blk_below HK3.out hb); clear HB HR HK HC3 HK3; have HB := m0_; have HR := m1_; have HK := m2_; have HC3 := m3_; have HK3 := m4_; clear m0_ m1_ m2_ m3_ m4_; obtain ⟨A4, c4, rfl⟩ := Kd.R_slice ho; have HC4 := Aside0.mk (Kd.R_reads' ho).2.2; have HL4 := Aside0.mk (Kd.R_reads' ho).2.1; clear ho; clear hb) | fail)
  have m0_ := Aside0.mk (HB.out.alloc HB.out.size (.cells #[.bool h, .int .i64 z, .int .i64 m, .slice A4 l.length c4] 26))
  have m1_ := Aside0.mk (Kd.C_alloc HR.out (.cells #[.bool h, .int .i64 z, .int .i64 m, .slice A4 l.length c4] 26))
  have m2_ := Aside0.mk (blk_alloc HK.out (.cells #[.bool h, .int .i64 z, .int .i64 m, .slice A4 l.length c4] 26))
  have m3_ := Aside0.mk (Kd.C_alloc HC3.out (.cells #[.bool h, .int .i64 z, .int .i64 m, .slice A4 l.length c4] 26))
  have m4_ := Aside0.mk (blk_alloc HK3.out (.cells #[.bool h, .int .i64 z, .int .i64 m, .slice A4 l.length c4] 26))
  have m5_ := Aside0.mk (Kd.C_alloc HC4.out (.cells #[.bool h, .int .i64 z, .int .i64 m, .slice A4 l.length c4] 26))
  clear HB HR HK HC3 HK3 HC4
  have HB := m0_
  have HR := m1_
  have HK := m2_
  have HC3 := m3_
  have HK3 := m4_
  have HC4 := m5_
  clear m0_ m1_ m2_ m3_ m4_ m5_
  have HK4 : Aside0 ((w6.alloc (.cells #[.bool h, .int .i64 z, .int .i64 m, .slice A4 l.length c4] 26)).heap[w6.heap.size]? = some (.cells #[.bool h, .int .i64 z, .int .i64 m, .slice A4 l.length c4] 26 (0, 0))) := ⟨heap_alloc_new _ _⟩
  generalize w6.alloc (.cells #[.bool h, .int .i64 z, .int .i64 m, .slice A4 l.length c4] 26) = w7 at HB HR HK HC3 HK3 HC4 HK4 ⊢
  generalize w6.heap.size = g4 at HK4 ⊢
  clear k0 k1 k2 k3 j0 j1 j2 j3
  obtain ⟨k0, k1, k2, k3⟩ := blk4 HK.out
  obtain ⟨j0, j1, j2, j3⟩ := blk4 HK3.out
  go_upto_region 13 with (first | (go_at_call 25; refine (memGrow_calls _ _ _ _ _ _ _ _ _ _ _ _ _ _ _ HR.out HC.out HG3.out).mono ?_; rintro e w8 ⟨v5, rfl, ho, hb⟩; have m0_ := Aside0.mk (below_step HB.out hb); have m1_ := Aside0.mk (Kd.C_below HR.out hb); have m2_ := Aside0.mk (blk_below HK.out hb); have m3_ := Aside0.mk (Kd.C_below HC3.out hb); have m4_ := Aside0.mk (blk_below HK3.out hb); have m5_ := Aside0.mk (Kd.C_below HC4.out hb); have m6_ := Aside0.mk (blk_below HK4.out hb); clear HB HR HK HC3 HK3 HC4 HK4; have HB := m0_; have HR := m1_; have HK := m2_; have HC3 := m3_; have HK3 := m4_; have HC4 := m5_; have HK4 := m6_; clear m0_ m1_ m2_ m3_ m4_ m5_ m6_; obtain ⟨A5, c5, rfl⟩ := Kd.R_slice ho; have HC5 := Aside0.mk (Kd.R_reads' ho).2.2; have HL5 := Aside0.mk (Kd.R_reads' ho).2.1; clear ho; clear hb) | fail)
  have m0_ := Aside0.mk (HB.out.alloc HB.out.size (.cells #[.bool h, .int .i64 z, .int .i64 m, .slice A5 l.length c5] 26))
  have m1_ := Aside0.mk (Kd.C_alloc HR.out (.cells #[.bool h, .int .i64 z, .int .i64 m, .slice A5 l.length c5] 26))
  have m2_ := Aside0.mk (blk_alloc HK.out (.cells #[.bool h, .int .i64 z, .int .i64 m, .slice A5 l.length c5] 26))
  have m3_ := Aside0.mk (Kd.C_alloc HC3.out (.cells #[.bool h, .int .i64 z, .int .i64 m, .slice A5 l.length c5] 26))
  have m4_ := Aside0.mk (blk_alloc HK3.out (.cells #[.bool h, .int .i64 z, .int .i64 m, .slice A5 l.length c5] 26))
  have m5_ := Aside0.mk (Kd.C_alloc HC4.out (.cells #[.bool h, .int .i64 z, .int .i64 m, .slice A5 l.length c5] 26))
  have m6_ := Aside0.mk (blk_alloc HK4.out (.cells #[.bool h, .int .i64 z, .int .i64 m, .slice A5 l.length c5] 26))
  have m7_ := Aside0.mk (Kd.C_alloc HC5.out (.cells #[.bool h, .int .i64 z, .int .i64 m, .slice A5 l.length c5] 26))
  clear HB HR HK HC3 HK3 HC4 HK4 HC5
  have HB := m0_
  have HR := m1_
  have HK := m2_
  have HC3 := m3_
  have HK3 := m4_
  have HC4 := m5_
  have HK4 := m6_
  have HC5 := m7_
  clear m0_ m1_ m2_ m3_ m4_ m5_ m6_ m7_
  have HK5 : Aside0 ((w8.alloc (.cells #[.bool h, .int .i64 z, .int .i64 m, .slice A5 l.length c5] 26)).heap[w8.heap.size]? = some (.cells #[.bool h, .int .i64 z, .int .i64 m, .slice A5 l.length c5] 26 (0, 0))) := ⟨heap_alloc_new _ _⟩
  generalize w8.alloc (.cells #[.bool h, .int .i64 z, .int .i64 m, .slice A5 l.length c5] 26) = w9 at HB HR HK HC3 HK3 HC4 HK4 HC5 HK5 ⊢
  generalize w8.heap.size = g5 at HK5 ⊢
  clear k0 k1 k2 k3 j0 j1 j2 j3
  obtain ⟨k0, k1, k2, k3⟩ := blk4 HK.out
  obtain ⟨j0, j1, j2, j3⟩ := blk4 HK4.out
  obtain ⟨i0, i1, i2, i3⟩ := blk4 HK5.out
  have e4 : (q == -1) = false := beq_eq_false_iff_ne.mpr (by have := HP.out; have := HN.out; clear e1 e3; omega)
  go_wp2_with (first | ((go_at_call 15; refine (bytebarnref13_Same.calls _ _ _ _ _ _ _ _ _ _ _ _ _ _ _ HC4.out HL4.out HC5.out HL5.out HSA.out).mono ?_; rintro e w10 ⟨rfl, hb⟩; have m0_ := Aside0.mk (below_step HB.out hb); have m1_ := Aside0.mk (Kd.C_below HR.out hb); have m2_ := Aside0.mk (blk_below HK.out hb); have m3_ := Aside0.mk (Kd.C_below HC3.out hb); have m4_ := Aside0.mk (blk_below HK3.out hb); have m5_ := Aside0.mk (Kd.C_below HC4.out hb); have m6_ := Aside0.mk (blk_below HK4.out hb); have m7_ := Aside0.mk (Kd.C_below HC5.out hb); have m8_ := Aside0.mk (blk_below HK5.out hb); clear HB HR HK HC3 HK3 HC4 HK4 HC5 HK5; have HB := m0_; have HR := m1_; have HK := m2_; have HC3 := m3_; have HK3 := m4_; have HC4 := m5_; have HK4 := m6_; have HC5 := m7_; have HK5 := m8_; clear m0_ m1_ m2_ m3_ m4_ m5_ m6_ m7_ m8_; clear hb); (obtain ⟨k0, k1, k2, k3⟩ := blk4 HK.out)) | fail)
  go_ret
  exact ⟨rfl, HB.out⟩
end Go.Proofs.Ytidojlacnamabaa
