/-
  MemApart: the law's walk, with every test decided beforehand. No statement is proved here.
-/
import Derived.Test.YtidojlacnamabaaMemS
namespace Go.Proofs.Ytidojlacnamabaa
open Go.RowKit Go.Proofs.Ytidojlacnamabaa.PAll Go.Proofs.YtidojlacnamabaaW.PrintWords Go.Proofs.YtidojlacnamabaaW.PrintLast Go.Proofs.YtidojlacnamabaaW.PrintMore
set_option linter.unusedVariables false
attribute [local go_sem] max2_int min2_int max_two min_two
set_option maxHeartbeats 8000000 in
set_option maxRecDepth 100000 in
theorem memApart_1 (A0 : Option Addr) (c0 : Nat) (l : List S40) (h : Bool) (p m op base off n x : Int) (w : World) (hr0 : Kd.C k40 w A0 l.length l) (hc0 : l.length ≤ c0) (hs : 2000 < l.length) :
    Calls Try.prog 5 #[.agg #[.bool h, .int .i64 p, .int .i64 m, .slice A0 l.length c0], .int .u8 op, .int .i64 base, .int .i64 off, .int .i64 n, .int .u8 x] w fun e w' => e = .returned (.bool true) ∧ Below w.heap.size w w' := by
  have HB := Aside0.mk (Below.refl w.heap.size w)
  have HR := Aside0.mk hr0
  have HC := Aside0.mk hc0
  clear hr0 hc0
  have c_2000 : decide (2000 < (l.length : Int)) = true := decide_eq_true (by omega)
  have d_2000 : decide (2000 < l.length) = true := decide_eq_true (by omega)
  go_enter Try.func5, Try.ntmps5
  go_upto_region 1 with (fail)
  have m0_ := Aside0.mk (HB.out.alloc HB.out.size (.cells #[.bool h, .int .i64 p, .int .i64 m, .slice A0 l.length c0] 26))
  have m1_ := Aside0.mk (Kd.C_alloc HR.out (.cells #[.bool h, .int .i64 p, .int .i64 m, .slice A0 l.length c0] 26))
  clear HB HR
  have HB := m0_
  have HR := m1_
  clear m0_ m1_
  have HK : Aside0 ((w.alloc (.cells #[.bool h, .int .i64 p, .int .i64 m, .slice A0 l.length c0] 26)).heap[w.heap.size]? = some (.cells #[.bool h, .int .i64 p, .int .i64 m, .slice A0 l.length c0] 26 (0, 0))) := ⟨heap_alloc_new _ _⟩
  generalize w.alloc (.cells #[.bool h, .int .i64 p, .int .i64 m, .slice A0 l.length c0] 26) = w1 at HB HR HK ⊢
  obtain ⟨g, hg_⟩ : ∃ g_, w.heap.size = g_ := ⟨_, rfl⟩
  rw [hg_] at HK ⊢
  have HG_ := Aside0.mk hg_
  clear hg_
  go_upto_region 2 with (first | (go_at_call 18; refine (alive_any _).mono ?_; rintro e w2 ⟨rfl, hb⟩; have m0_ := Aside0.mk (below_step HB.out hb); have m1_ := Aside0.mk (Kd.C_below HR.out hb); have m2_ := Aside0.mk (blk_below HK.out hb); clear HB HR HK; have HB := m0_; have HR := m1_; have HK := m2_; clear m0_ m1_ m2_; clear hb) | fail)
  obtain ⟨k0, k1, k2, k3⟩ := blk4 HK.out
  go_wp2
  go_ret
  exact ⟨rfl, HB.out⟩
set_option maxHeartbeats 8000000 in
set_option maxRecDepth 100000 in
theorem memApart_2 (A0 : Option Addr) (c0 : Nat) (l : List S40) (h : Bool) (p m op base off n x : Int) (w : World) (hr0 : Kd.C k40 w A0 l.length l) (hc0 : l.length ≤ c0) (hs : ¬ 2000 < l.length) (K : Nat) (e_ : Int) (he : e_ ≠ 0) (hst : mem_Store.f K h p m l op base off n = some (false, 0, 0, [], 0, e_)) :
    Calls Try.prog 5 #[.agg #[.bool h, .int .i64 p, .int .i64 m, .slice A0 l.length c0], .int .u8 op, .int .i64 base, .int .i64 off, .int .i64 n, .int .u8 x] w fun e w' => e = .returned (.bool true) ∧ Below w.heap.size w w' := by
  have HB := Aside0.mk (Below.refl w.heap.size w)
  have HR := Aside0.mk hr0
  have HC := Aside0.mk hc0
  clear hr0 hc0
  have HST := Aside0.mk hst
  clear hst
  have c_2000 : decide (2000 < (l.length : Int)) = false := decide_eq_false (by omega)
  have d_2000 : decide (2000 < l.length) = false := decide_eq_false (by omega)
  go_enter Try.func5, Try.ntmps5
  go_upto_region 1 with (fail)
  have m0_ := Aside0.mk (HB.out.alloc HB.out.size (.cells #[.bool h, .int .i64 p, .int .i64 m, .slice A0 l.length c0] 26))
  have m1_ := Aside0.mk (Kd.C_alloc HR.out (.cells #[.bool h, .int .i64 p, .int .i64 m, .slice A0 l.length c0] 26))
  clear HB HR
  have HB := m0_
  have HR := m1_
  clear m0_ m1_
  have HK : Aside0 ((w.alloc (.cells #[.bool h, .int .i64 p, .int .i64 m, .slice A0 l.length c0] 26)).heap[w.heap.size]? = some (.cells #[.bool h, .int .i64 p, .int .i64 m, .slice A0 l.length c0] 26 (0, 0))) := ⟨heap_alloc_new _ _⟩
  generalize w.alloc (.cells #[.bool h, .int .i64 p, .int .i64 m, .slice A0 l.length c0] 26) = w1 at HB HR HK ⊢
  obtain ⟨g, hg_⟩ : ∃ g_, w.heap.size = g_ := ⟨_, rfl⟩
  rw [hg_] at HK ⊢
  have HG_ := Aside0.mk hg_
  clear hg_
  go_upto_region 2 with (first | (go_at_call 18; refine (alive_any _).mono ?_; rintro e w2 ⟨rfl, hb⟩; have m0_ := Aside0.mk (below_step HB.out hb); have m1_ := Aside0.mk (Kd.C_below HR.out hb); have m2_ := Aside0.mk (blk_below HK.out hb); clear HB HR HK; have HB := m0_; have HR := m1_; have HK := m2_; clear m0_ m1_ m2_; clear hb) | fail)
  obtain ⟨k0, k1, k2, k3⟩ := blk4 HK.out
  go_upto_region 5 with (first | (go_at_call 19; refine (mem_Store.calls _ _ _ _ _ _ _ _ _ _ _ _ _ _ _ _ _ _ HR.out HC.out HST.out).mono ?_; rintro e w3 ⟨v3, rfl, ho, hb⟩; have m0_ := Aside0.mk (below_step HB.out hb); have m1_ := Aside0.mk (Kd.C_below HR.out hb); have m2_ := Aside0.mk (blk_below HK.out hb); clear HB HR HK; have HB := m0_; have HR := m1_; have HK := m2_; clear m0_ m1_ m2_; obtain ⟨A3, c3, rfl⟩ := Kd.R_slice ho; have HC3 := Aside0.mk (Kd.R_reads' ho).2.2; have HL3 := Aside0.mk (Kd.R_reads' ho).2.1; clear ho; clear hb) | fail)
  have m0_ := Aside0.mk (HB.out.alloc HB.out.size (.cells #[.bool false, .int .i64 0, .int .i64 0, .slice A3 0 c3] 26))
  have m1_ := Aside0.mk (Kd.C_alloc HR.out (.cells #[.bool false, .int .i64 0, .int .i64 0, .slice A3 0 c3] 26))
  have m2_ := Aside0.mk (blk_alloc HK.out (.cells #[.bool false, .int .i64 0, .int .i64 0, .slice A3 0 c3] 26))
  have m3_ := Aside0.mk (Kd.C_alloc HC3.out (.cells #[.bool false, .int .i64 0, .int .i64 0, .slice A3 0 c3] 26))
  clear HB HR HK HC3
  have HB := m0_
  have HR := m1_
  have HK := m2_
  have HC3 := m3_
  clear m0_ m1_ m2_ m3_
  have HK3 : Aside0 ((w3.alloc (.cells #[.bool false, .int .i64 0, .int .i64 0, .slice A3 0 c3] 26)).heap[w3.heap.size]? = some (.cells #[.bool false, .int .i64 0, .int .i64 0, .slice A3 0 c3] 26 (0, 0))) := ⟨heap_alloc_new _ _⟩
  generalize w3.alloc (.cells #[.bool false, .int .i64 0, .int .i64 0, .slice A3 0 c3] 26) = w4 at HB HR HK HC3 HK3 ⊢
  generalize w3.heap.size = g3 at HK3 ⊢
  clear k0 k1 k2 k3
  obtain ⟨k0, k1, k2, k3⟩ := blk4 HK.out
  obtain ⟨j0, j1, j2, j3⟩ := blk4 HK3.out
  have e1 : (e_ == 0) = false := beq_eq_false_iff_ne.mpr he
  have e2 : (e_ != 0) = true := bne_iff_ne.mpr he
  go_wp2
  go_ret
  exact ⟨rfl, HB.out⟩
set_option maxHeartbeats 8000000 in
set_option maxRecDepth 100000 in
theorem memApart_3 (A0 : Option Addr) (c0 : Nat) (l : List S40) (h : Bool) (p m op base off n x : Int) (w : World) (hr0 : Kd.C k40 w A0 l.length l) (hc0 : l.length ≤ c0) (hs : ¬ 2000 < l.length) (K : Nat) (hst : mem_Store.f K h p m l op base off n = some (h, p, m, l, 4, 0)) :
    Calls Try.prog 5 #[.agg #[.bool h, .int .i64 p, .int .i64 m, .slice A0 l.length c0], .int .u8 op, .int .i64 base, .int .i64 off, .int .i64 n, .int .u8 x] w fun e w' => e = .returned (.bool true) ∧ Below w.heap.size w w' := by
  have HB := Aside0.mk (Below.refl w.heap.size w)
  have HR := Aside0.mk hr0
  have HC := Aside0.mk hc0
  clear hr0 hc0
  have HST := Aside0.mk hst
  clear hst
  have c_2000 : decide (2000 < (l.length : Int)) = false := decide_eq_false (by omega)
  have d_2000 : decide (2000 < l.length) = false := decide_eq_false (by omega)
  go_enter Try.func5, Try.ntmps5
  go_upto_region 1 with (fail)
  have m0_ := Aside0.mk (HB.out.alloc HB.out.size (.cells #[.bool h, .int .i64 p, .int .i64 m, .slice A0 l.length c0] 26))
  have m1_ := Aside0.mk (Kd.C_alloc HR.out (.cells #[.bool h, .int .i64 p, .int .i64 m, .slice A0 l.length c0] 26))
  clear HB HR
  have HB := m0_
  have HR := m1_
  clear m0_ m1_
  have HK : Aside0 ((w.alloc (.cells #[.bool h, .int .i64 p, .int .i64 m, .slice A0 l.length c0] 26)).heap[w.heap.size]? = some (.cells #[.bool h, .int .i64 p, .int .i64 m, .slice A0 l.length c0] 26 (0, 0))) := ⟨heap_alloc_new _ _⟩
  generalize w.alloc (.cells #[.bool h, .int .i64 p, .int .i64 m, .slice A0 l.length c0] 26) = w1 at HB HR HK ⊢
  obtain ⟨g, hg_⟩ : ∃ g_, w.heap.size = g_ := ⟨_, rfl⟩
  rw [hg_] at HK ⊢
  have HG_ := Aside0.mk hg_
  clear hg_
  go_upto_region 2 with (first | (go_at_call 18; refine (alive_any _).mono ?_; rintro e w2 ⟨rfl, hb⟩; have m0_ := Aside0.mk (below_step HB.out hb); have m1_ := Aside0.mk (Kd.C_below HR.out hb); have m2_ := Aside0.mk (blk_below HK.out hb); clear HB HR HK; have HB := m0_; have HR := m1_; have HK := m2_; clear m0_ m1_ m2_; clear hb) | fail)
  obtain ⟨k0, k1, k2, k3⟩ := blk4 HK.out
  go_upto_region 5 with (first | (go_at_call 19; refine (mem_Store.calls _ _ _ _ _ _ _ _ _ _ _ _ _ _ _ _ _ _ HR.out HC.out HST.out).mono ?_; rintro e w3 ⟨v3, rfl, ho, hb⟩; have m0_ := Aside0.mk (below_step HB.out hb); have m1_ := Aside0.mk (Kd.C_below HR.out hb); have m2_ := Aside0.mk (blk_below HK.out hb); clear HB HR HK; have HB := m0_; have HR := m1_; have HK := m2_; clear m0_ m1_ m2_; obtain ⟨A3, c3, rfl⟩ := Kd.R_slice ho; have HC3 := Aside0.mk (Kd.R_reads' ho).2.2; have HL3 := Aside0.mk (Kd.R_reads' ho).2.1; clear ho; clear hb) | fail)
  have m0_ := Aside0.mk (HB.out.alloc HB.out.size (.cells #[.bool h, .int .i64 p, .int .i64 m, .slice A3 l.length c3] 26))
  have m1_ := Aside0.mk (Kd.C_alloc HR.out (.cells #[.bool h, .int .i64 p, .int .i64 m, .slice A3 l.length c3] 26))
  have m2_ := Aside0.mk (blk_alloc HK.out (.cells #[.bool h, .int .i64 p, .int .i64 m, .slice A3 l.length c3] 26))
  have m3_ := Aside0.mk (Kd.C_alloc HC3.out (.cells #[.bool h, .int .i64 p, .int .i64 m, .slice A3 l.length c3] 26))
  clear HB HR HK HC3
  have HB := m0_
  have HR := m1_
  have HK := m2_
  have HC3 := m3_
  clear m0_ m1_ m2_ m3_
  have HK3 : Aside0 ((w3.alloc (.cells #[.bool h, .int .i64 p, .int .i64 m, .slice A3 l.length c3] 26)).heap[w3.heap.size]? = some (.cells #[.bool h, .int .i64 p, .int .i64 m, .slice A3 l.length c3] 26 (0, 0))) := ⟨heap_alloc_new _ _⟩
  generalize w3.alloc (.cells #[.bool h, .int .i64 p, .int .i64 m, .slice A3 l.length c3] 26) = w4 at HB HR HK HC3 HK3 ⊢
  generalize w3.heap.size = g3 at HK3 ⊢
  clear k0 k1 k2 k3
  obtain ⟨k0, k1, k2, k3⟩ := blk4 HK.out
  obtain ⟨j0, j1, j2, j3⟩ := blk4 HK3.out
  go_wp2
  go_ret
  exact ⟨rfl, HB.out⟩
set_option maxHeartbeats 8000000 in
set_option maxRecDepth 100000 in
theorem memApart_4 (A0 : Option Addr) (c0 : Nat) (l : List S40) (h : Bool) (p m op base off n x : Int) (w : World) (hr0 : Kd.C k40 w A0 l.length l) (hc0 : l.length ≤ c0) (hs : ¬ 2000 < l.length) (K : Nat) (lw : List S40) (t1 t2 : List Int) (my of : Int) (s1 s2 : Bool) (a a1 lo n1 a2 a3 hi n2 n3 : Int) (hx0 : 0 ≤ x) (hx1 : x < 256) (ha : wrap64 (base % 4294967296 + off) = a) (ha1 : wrap64 (a - x) = a1) (hlo : (if 0 < a1 then a1 else 0) = lo) (hn1 : wrap64 (a - lo) = n1) (ha2 : wrap64 (a + my) = a2) (ha3 : wrap64 (a2 + x) = a3) (hp_ : wrap64 (p * 65536) = p * 65536) (hhi : (if a3 < p * 65536 then a3 else p * 65536) = hi) (hn2 : wrap64 (hi - a) = n2) (hn3 : wrap64 (n2 - my) = n3) (hst : mem_Store.f K h p m l op base off n = some (h, p, m, lw, 0, 0)) (hac : typed_Access.f op = some (my, of, s1, s2)) (hb1 : mem_Bytes.f K h p m l lo n1 = some (t1, 0)) (hb2 : mem_Bytes.f K h p m lw lo n1 = some (t1, 0)) (hb3 : mem_Bytes.f K h p m l a2 n3 = some (t2, 0)) (hb4 : mem_Bytes.f K h p m lw a2 n3 = some (t2, 0)) :
    Calls Try.prog 5 #[.agg #[.bool h, .int .i64 p, .int .i64 m, .slice A0 l.length c0], .int .u8 op, .int .i64 base, .int .i64 off, .int .i64 n, .int .u8 x] w fun e w' => e = .returned (.bool true) ∧ Below w.heap.size w w' := by
  have HB := Aside0.mk (Below.refl w.heap.size w)
  have HR := Aside0.mk hr0
  have HC := Aside0.mk hc0
  clear hr0 hc0
  have HST := Aside0.mk hst
  clear hst
  have HAC := Aside0.mk hac
  clear hac
  have HB1 := Aside0.mk hb1
  clear hb1
  have HB2 := Aside0.mk hb2
  clear hb2
  have HB3 := Aside0.mk hb3
  clear hb3
  have HB4 := Aside0.mk hb4
  clear hb4
  have c_2000 : decide (2000 < (l.length : Int)) = false := decide_eq_false (by omega)
  have d_2000 : decide (2000 < l.length) = false := decide_eq_false (by omega)
  go_enter Try.func5, Try.ntmps5
  go_upto_region 1 with (fail)
  have m0_ := Aside0.mk (HB.out.alloc HB.out.size (.cells #[.bool h, .int .i64 p, .int .i64 m, .slice A0 l.length c0] 26))
  have m1_ := Aside0.mk (Kd.C_alloc HR.out (.cells #[.bool h, .int .i64 p, .int .i64 m, .slice A0 l.length c0] 26))
  clear HB HR
  have HB := m0_
  have HR := m1_
  clear m0_ m1_
  have HK : Aside0 ((w.alloc (.cells #[.bool h, .int .i64 p, .int .i64 m, .slice A0 l.length c0] 26)).heap[w.heap.size]? = some (.cells #[.bool h, .int .i64 p, .int .i64 m, .slice A0 l.length c0] 26 (0, 0))) := ⟨heap_alloc_new _ _⟩
  generalize w.alloc (.cells #[.bool h, .int .i64 p, .int .i64 m, .slice A0 l.length c0] 26) = w1 at HB HR HK ⊢
  obtain ⟨g, hg_⟩ : ∃ g_, w.heap.size = g_ := ⟨_, rfl⟩
  rw [hg_] at HK ⊢
  have HG_ := Aside0.mk hg_
  clear hg_
  go_upto_region 2 with (first | (go_at_call 18; refine (alive_any _).mono ?_; rintro e w2 ⟨rfl, hb⟩; have m0_ := Aside0.mk (below_step HB.out hb); have m1_ := Aside0.mk (Kd.C_below HR.out hb); have m2_ := Aside0.mk (blk_below HK.out hb); clear HB HR HK; have HB := m0_; have HR := m1_; have HK := m2_; clear m0_ m1_ m2_; clear hb) | fail)
  obtain ⟨k0, k1, k2, k3⟩ := blk4 HK.out
  go_upto_region 5 with (first | (go_at_call 19; refine (mem_Store.calls _ _ _ _ _ _ _ _ _ _ _ _ _ _ _ _ _ _ HR.out HC.out HST.out).mono ?_; rintro e w3 ⟨v3, rfl, ho, hb⟩; have m0_ := Aside0.mk (below_step HB.out hb); have m1_ := Aside0.mk (Kd.C_below HR.out hb); have m2_ := Aside0.mk (blk_below HK.out hb); clear HB HR HK; have HB := m0_; have HR := m1_; have HK := m2_; clear m0_ m1_ m2_; obtain ⟨A3, c3, rfl⟩ := Kd.R_slice ho; have HC3 := Aside0.mk (Kd.R_reads' ho).2.2; have HL3 := Aside0.mk (Kd.R_reads' ho).2.1; clear ho; clear hb) | fail)
  have m0_ := Aside0.mk (HB.out.alloc HB.out.size (.cells #[.bool h, .int .i64 p, .int .i64 m, .slice A3 lw.length c3] 26))
  have m1_ := Aside0.mk (Kd.C_alloc HR.out (.cells #[.bool h, .int .i64 p, .int .i64 m, .slice A3 lw.length c3] 26))
  have m2_ := Aside0.mk (blk_alloc HK.out (.cells #[.bool h, .int .i64 p, .int .i64 m, .slice A3 lw.length c3] 26))
  have m3_ := Aside0.mk (Kd.C_alloc HC3.out (.cells #[.bool h, .int .i64 p, .int .i64 m, .slice A3 lw.length c3] 26))
  clear HB HR HK HC3
  have HB := m0_
  have HR := m1_
  have HK := m2_
  have HC3 := m3_
  clear m0_ m1_ m2_ m3_
  have HK3 : Aside0 ((w3.alloc (.cells #[.bool h, .int .i64 p, .int .i64 m, .slice A3 lw.length c3] 26)).heap[w3.heap.size]? = some (.cells #[.bool h, .int .i64 p, .int .i64 m, .slice A3 lw.length c3] 26 (0, 0))) := ⟨heap_alloc_new _ _⟩
  generalize w3.alloc (.cells #[.bool h, .int .i64 p, .int .i64 m, .slice A3 lw.length c3] 26) = w4 at HB HR HK HC3 HK3 ⊢
  generalize w3.heap.size = g3 at HK3 ⊢
  clear k0 k1 k2 k3
  obtain ⟨k0, k1, k2, k3⟩ := blk4 HK.out
  obtain ⟨j0, j1, j2, j3⟩ := blk4 HK3.out
  go_upto_region 8 with (first | (go_at_call 22; refine (typed_Access.calls _ _ _ _ _ _ HAC.out).mono ?_; rintro e w5 ⟨rfl, hb⟩; have m0_ := Aside0.mk (below_step HB.out hb); have m1_ := Aside0.mk (Kd.C_below HR.out hb); have m2_ := Aside0.mk (blk_below HK.out hb); have m3_ := Aside0.mk (Kd.C_below HC3.out hb); have m4_ := Aside0.mk (blk_below HK3.out hb); clear HB HR HK HC3 HK3; have HB := m0_; have HR := m1_; have HK := m2_; have HC3 := m3_; have HK3 := m4_; clear m0_ m1_ m2_ m3_ m4_; clear hb) | fail)
  clear k0 k1 k2 k3 j0 j1 j2 j3
  obtain ⟨k0, k1, k2, k3⟩ := blk4 HK.out
  obtain ⟨j0, j1, j2, j3⟩ := blk4 HK3.out
  go_upto_region 12 with (first | (go_at_call 12; refine (mem_Bytes.calls _ _ _ _ _ _ _ _ _ _ _ _ HR.out HC.out HB1.out).mono ?_; rintro e w6 ⟨vp, rfl, hop, hb⟩; have m0_ := Aside0.mk (below_step HB.out hb); have m1_ := Aside0.mk (Kd.C_below HR.out hb); have m2_ := Aside0.mk (blk_below HK.out hb); have m3_ := Aside0.mk (Kd.C_below HC3.out hb); have m4_ := Aside0.mk (blk_below HK3.out hb); clear HB HR HK HC3 HK3; have HB := m0_; have HR := m1_; have HK := m2_; have HC3 := m3_; have HK3 := m4_; clear m0_ m1_ m2_ m3_ m4_; obtain ⟨Ap, cp, rfl⟩ := Kd.R_slice hop; have HCp := Aside0.mk (Kd.R_reads' hop).2.2; have HLp := Aside0.mk (Kd.R_reads' hop).2.1; clear hop; clear hb) | fail)
  clear k0 k1 k2 k3 j0 j1 j2 j3
  obtain ⟨k0, k1, k2, k3⟩ := blk4 HK.out
  obtain ⟨j0, j1, j2, j3⟩ := blk4 HK3.out
  go_upto_region 13 with (first | (go_at_call 12; refine (mem_Bytes.calls _ _ _ _ _ _ _ _ _ _ _ _ HC3.out HL3.out HB2.out).mono ?_; rintro e w7 ⟨vq, rfl, hoq, hb⟩; have m0_ := Aside0.mk (below_step HB.out hb); have m1_ := Aside0.mk (Kd.C_below HR.out hb); have m2_ := Aside0.mk (blk_below HK.out hb); have m3_ := Aside0.mk (Kd.C_below HC3.out hb); have m4_ := Aside0.mk (blk_below HK3.out hb); have m5_ := Aside0.mk (Kd.C_below HCp.out hb); clear HB HR HK HC3 HK3 HCp; have HB := m0_; have HR := m1_; have HK := m2_; have HC3 := m3_; have HK3 := m4_; have HCp := m5_; clear m0_ m1_ m2_ m3_ m4_ m5_; obtain ⟨Aq, cq, rfl⟩ := Kd.R_slice hoq; have HCq := Aside0.mk (Kd.R_reads' hoq).2.2; have HLq := Aside0.mk (Kd.R_reads' hoq).2.1; clear hoq; clear hb) | fail)
  clear k0 k1 k2 k3 j0 j1 j2 j3
  obtain ⟨k0, k1, k2, k3⟩ := blk4 HK.out
  obtain ⟨j0, j1, j2, j3⟩ := blk4 HK3.out
  go_upto_region 14 with (first | (go_at_call 12; refine (mem_Bytes.calls _ _ _ _ _ _ _ _ _ _ _ _ HR.out HC.out HB3.out).mono ?_; rintro e w8 ⟨vr, rfl, hor, hb⟩; have m0_ := Aside0.mk (below_step HB.out hb); have m1_ := Aside0.mk (Kd.C_below HR.out hb); have m2_ := Aside0.mk (blk_below HK.out hb); have m3_ := Aside0.mk (Kd.C_below HC3.out hb); have m4_ := Aside0.mk (blk_below HK3.out hb); have m5_ := Aside0.mk (Kd.C_below HCp.out hb); have m6_ := Aside0.mk (Kd.C_below HCq.out hb); clear HB HR HK HC3 HK3 HCp HCq; have HB := m0_; have HR := m1_; have HK := m2_; have HC3 := m3_; have HK3 := m4_; have HCp := m5_; have HCq := m6_; clear m0_ m1_ m2_ m3_ m4_ m5_ m6_; obtain ⟨Ar, cr, rfl⟩ := Kd.R_slice hor; have HCr := Aside0.mk (Kd.R_reads' hor).2.2; have HLr := Aside0.mk (Kd.R_reads' hor).2.1; clear hor; clear hb) | fail)
  clear k0 k1 k2 k3 j0 j1 j2 j3
  obtain ⟨k0, k1, k2, k3⟩ := blk4 HK.out
  obtain ⟨j0, j1, j2, j3⟩ := blk4 HK3.out
  go_upto_region 15 with (first | (go_at_call 12; refine (mem_Bytes.calls _ _ _ _ _ _ _ _ _ _ _ _ HC3.out HL3.out HB4.out).mono ?_; rintro e w9 ⟨vs, rfl, hos, hb⟩; have m0_ := Aside0.mk (below_step HB.out hb); have m1_ := Aside0.mk (Kd.C_below HR.out hb); have m2_ := Aside0.mk (blk_below HK.out hb); have m3_ := Aside0.mk (Kd.C_below HC3.out hb); have m4_ := Aside0.mk (blk_below HK3.out hb); have m5_ := Aside0.mk (Kd.C_below HCp.out hb); have m6_ := Aside0.mk (Kd.C_below HCq.out hb); have m7_ := Aside0.mk (Kd.C_below HCr.out hb); clear HB HR HK HC3 HK3 HCp HCq HCr; have HB := m0_; have HR := m1_; have HK := m2_; have HC3 := m3_; have HK3 := m4_; have HCp := m5_; have HCq := m6_; have HCr := m7_; clear m0_ m1_ m2_ m3_ m4_ m5_ m6_ m7_; obtain ⟨As, cs, rfl⟩ := Kd.R_slice hos; have HCs := Aside0.mk (Kd.R_reads' hos).2.2; have HLs := Aside0.mk (Kd.R_reads' hos).2.1; clear hos; clear hb) | fail)
  clear k0 k1 k2 k3 j0 j1 j2 j3
  obtain ⟨k0, k1, k2, k3⟩ := blk4 HK.out
  obtain ⟨j0, j1, j2, j3⟩ := blk4 HK3.out
  have svp : Sem.run Try.prog (convert 32 9 (.slice Ap t1.length cp)) w9 = .ok (.string (strOfNums t1)) w9 := Kd.C_string (P := Try.prog) (A := Ap) (c := cp) Try.underlying32 Try.underlying5 Try.underlying9 HCp.out
  have svq : Sem.run Try.prog (convert 32 9 (.slice Aq t1.length cq)) w9 = .ok (.string (strOfNums t1)) w9 := Kd.C_string (P := Try.prog) (A := Aq) (c := cq) Try.underlying32 Try.underlying5 Try.underlying9 HCq.out
  have svr : Sem.run Try.prog (convert 32 9 (.slice Ar t2.length cr)) w9 = .ok (.string (strOfNums t2)) w9 := Kd.C_string (P := Try.prog) (A := Ar) (c := cr) Try.underlying32 Try.underlying5 Try.underlying9 HCr.out
  have svs : Sem.run Try.prog (convert 32 9 (.slice As t2.length cs)) w9 = .ok (.string (strOfNums t2)) w9 := Kd.C_string (P := Try.prog) (A := As) (c := cs) Try.underlying32 Try.underlying5 Try.underlying9 HCs.out
  go_wp2
  go_ret
  exact ⟨rfl, HB.out⟩
end Go.Proofs.Ytidojlacnamabaa
