/-
  MemWrites: the law's walk, with every test decided beforehand. No statement is proved here.
-/
import Derived.Test.YtidojlacnamabaaMemS
import Derived.Test.YtidojlacnamabaaMemWr
namespace Go.Proofs.Ytidojlacnamabaa
open Go.RowKit Go.Proofs.Ytidojlacnamabaa.PAll Go.Proofs.YtidojlacnamabaaW.PrintWords Go.Proofs.YtidojlacnamabaaW.PrintLast Go.Proofs.YtidojlacnamabaaW.PrintMore
set_option linter.unusedVariables false
theorem mem_Write_at {k : Nat} {h : Bool} {p m : Int} {A : Option Addr} {c : Nat} {l : List (S40)} {b : Int} {A2 : Option Addr} {c2 n2 : Nat} {l2 : List Int} {r1 : Bool} {r2 r3 : Int} {r4 : List (S40)} {r5 : Int} {w : World} (hr : Kd.C k40 w A l.length l) (hc : l.length ≤ c) (hr2 : Kd.C (Kd.int .u8) w A2 n2 l2) (hc2 : n2 ≤ c2) (hf : mem_Write.f k h p m l b l2 = some (r1, r2, r3, r4, r5)) (hn : l2.length = n2) :
    Calls Try.prog 27 #[.agg #[.bool h, .int .i64 p, .int .i64 m, .slice A l.length c], .int .i64 b, .slice A2 n2 c2] w fun e w' => ∃ v3_ : Value, e = .returned (.tuple #[.agg #[.bool r1, .int .i64 r2, .int .i64 r3, v3_], .int .i64 r5]) ∧ Kd.R k40 40 w' w.heap.size (fun _ => True) v3_ r4 ∧ Below w.heap.size w w' := by
  subst hn; exact mem_Write.calls _ _ _ _ _ _ _ _ _ _ _ _ _ _ _ _ _ hr hc hr2 hc2 hf
set_option maxHeartbeats 8000000 in
set_option maxRecDepth 100000 in
theorem memWrites_1 (A0 : Option Addr) (c0 : Nat) (l : List S40) (h : Bool) (p m b : Int) (Aa : Option Addr) (ca : Nat) (la : List Int) (Ab : Option Addr) (cb : Nat) (lb : List Int) (w : World) (hr0 : Kd.C k40 w A0 l.length l) (hc0 : l.length ≤ c0) (hra : Kd.C (Kd.int .u8) w Aa la.length la) (hca : la.length ≤ ca) (hrb : Kd.C (Kd.int .u8) w Ab lb.length lb) (hcb : lb.length ≤ cb) (hx : 2000 < l.length) :
    Calls Try.prog 9 #[.agg #[.bool h, .int .i64 p, .int .i64 m, .slice A0 l.length c0], .int .i64 b, .slice Aa la.length ca, .slice Ab lb.length cb] w fun e w' => e = .returned (.bool true) ∧ Below w.heap.size w w' := by
  have HB := Aside0.mk (Below.refl w.heap.size w)
  have HR := Aside0.mk hr0
  have HC := Aside0.mk hc0
  have HRA := Aside0.mk hra
  have HCA := Aside0.mk hca
  have HRB := Aside0.mk hrb
  have HCB := Aside0.mk hcb
  clear hr0 hc0 hra hca hrb hcb
  have c_2000 : decide (2000 < (l.length : Int)) = true := decide_eq_true (by omega)
  have d_2000 : decide (2000 < l.length) = true := decide_eq_true (by omega)
  go_enter Try.func9, Try.ntmps9
  go_upto_region 1 with (fail)
  have m0_ := Aside0.mk (HB.out.alloc HB.out.size (.cells #[.bool h, .int .i64 p, .int .i64 m, .slice A0 l.length c0] 26))
  have m1_ := Aside0.mk (Kd.C_alloc HR.out (.cells #[.bool h, .int .i64 p, .int .i64 m, .slice A0 l.length c0] 26))
  have m2_ := Aside0.mk (Kd.C_alloc HRA.out (.cells #[.bool h, .int .i64 p, .int .i64 m, .slice A0 l.length c0] 26))
  have m3_ := Aside0.mk (Kd.C_alloc HRB.out (.cells #[.bool h, .int .i64 p, .int .i64 m, .slice A0 l.length c0] 26))
  clear HB HR HRA HRB
  have HB := m0_
  have HR := m1_
  have HRA := m2_
  have HRB := m3_
  clear m0_ m1_ m2_ m3_
  have HK : Aside0 ((w.alloc (.cells #[.bool h, .int .i64 p, .int .i64 m, .slice A0 l.length c0] 26)).heap[w.heap.size]? = some (.cells #[.bool h, .int .i64 p, .int .i64 m, .slice A0 l.length c0] 26 (0, 0))) := ⟨heap_alloc_new _ _⟩
  generalize w.alloc (.cells #[.bool h, .int .i64 p, .int .i64 m, .slice A0 l.length c0] 26) = w1 at HB HR HRA HRB HK ⊢
  obtain ⟨g, hg_⟩ : ∃ g_, w.heap.size = g_ := ⟨_, rfl⟩
  rw [hg_] at HK ⊢
  have HG_ := Aside0.mk hg_
  clear hg_
  go_upto_region 2 with (first | (go_at_call 18; refine (alive_any _).mono ?_; rintro e w2 ⟨rfl, hb⟩; have m0_ := Aside0.mk (below_step HB.out hb); have m1_ := Aside0.mk (Kd.C_below HR.out hb); have m2_ := Aside0.mk (Kd.C_below HRA.out hb); have m3_ := Aside0.mk (Kd.C_below HRB.out hb); have m4_ := Aside0.mk (blk_below HK.out hb); clear HB HR HRA HRB HK; have HB := m0_; have HR := m1_; have HRA := m2_; have HRB := m3_; have HK := m4_; clear m0_ m1_ m2_ m3_ m4_; clear hb) | fail)
  obtain ⟨k0, k1, k2, k3⟩ := blk4 HK.out
  go_wp2
  go_ret
  exact ⟨rfl, HB.out⟩
set_option maxHeartbeats 8000000 in
set_option maxRecDepth 100000 in
theorem memWrites_2 (A0 : Option Addr) (c0 : Nat) (l : List S40) (h : Bool) (p m b : Int) (Aa : Option Addr) (ca : Nat) (la : List Int) (Ab : Option Addr) (cb : Nat) (lb : List Int) (w : World) (hr0 : Kd.C k40 w A0 l.length l) (hc0 : l.length ≤ c0) (hra : Kd.C (Kd.int .u8) w Aa la.length la) (hca : la.length ≤ ca) (hrb : Kd.C (Kd.int .u8) w Ab lb.length lb) (hcb : lb.length ≤ cb) (hx : ¬ 2000 < l.length) (hy : 1000 < la.length) :
    Calls Try.prog 9 #[.agg #[.bool h, .int .i64 p, .int .i64 m, .slice A0 l.length c0], .int .i64 b, .slice Aa la.length ca, .slice Ab lb.length cb] w fun e w' => e = .returned (.bool true) ∧ Below w.heap.size w w' := by
  have HB := Aside0.mk (Below.refl w.heap.size w)
  have HR := Aside0.mk hr0
  have HC := Aside0.mk hc0
  have HRA := Aside0.mk hra
  have HCA := Aside0.mk hca
  have HRB := Aside0.mk hrb
  have HCB := Aside0.mk hcb
  clear hr0 hc0 hra hca hrb hcb
  have c_2000 : decide (2000 < (l.length : Int)) = false := decide_eq_false (by omega)
  have d_2000 : decide (2000 < l.length) = false := decide_eq_false (by omega)
  have c_1000 : decide (1000 < (la.length : Int)) = true := decide_eq_true (by omega)
  have d_1000 : decide (1000 < la.length) = true := decide_eq_true (by omega)
  go_enter Try.func9, Try.ntmps9
  go_upto_region 1 with (fail)
  have m0_ := Aside0.mk (HB.out.alloc HB.out.size (.cells #[.bool h, .int .i64 p, .int .i64 m, .slice A0 l.length c0] 26))
  have m1_ := Aside0.mk (Kd.C_alloc HR.out (.cells #[.bool h, .int .i64 p, .int .i64 m, .slice A0 l.length c0] 26))
  have m2_ := Aside0.mk (Kd.C_alloc HRA.out (.cells #[.bool h, .int .i64 p, .int .i64 m, .slice A0 l.length c0] 26))
  have m3_ := Aside0.mk (Kd.C_alloc HRB.out (.cells #[.bool h, .int .i64 p, .int .i64 m, .slice A0 l.length c0] 26))
  clear HB HR HRA HRB
  have HB := m0_
  have HR := m1_
  have HRA := m2_
  have HRB := m3_
  clear m0_ m1_ m2_ m3_
  have HK : Aside0 ((w.alloc (.cells #[.bool h, .int .i64 p, .int .i64 m, .slice A0 l.length c0] 26)).heap[w.heap.size]? = some (.cells #[.bool h, .int .i64 p, .int .i64 m, .slice A0 l.length c0] 26 (0, 0))) := ⟨heap_alloc_new _ _⟩
  generalize w.alloc (.cells #[.bool h, .int .i64 p, .int .i64 m, .slice A0 l.length c0] 26) = w1 at HB HR HRA HRB HK ⊢
  obtain ⟨g, hg_⟩ : ∃ g_, w.heap.size = g_ := ⟨_, rfl⟩
  rw [hg_] at HK ⊢
  have HG_ := Aside0.mk hg_
  clear hg_
  go_upto_region 2 with (first | (go_at_call 18; refine (alive_any _).mono ?_; rintro e w2 ⟨rfl, hb⟩; have m0_ := Aside0.mk (below_step HB.out hb); have m1_ := Aside0.mk (Kd.C_below HR.out hb); have m2_ := Aside0.mk (Kd.C_below HRA.out hb); have m3_ := Aside0.mk (Kd.C_below HRB.out hb); have m4_ := Aside0.mk (blk_below HK.out hb); clear HB HR HRA HRB HK; have HB := m0_; have HR := m1_; have HRA := m2_; have HRB := m3_; have HK := m4_; clear m0_ m1_ m2_ m3_ m4_; clear hb) | fail)
  obtain ⟨k0, k1, k2, k3⟩ := blk4 HK.out
  go_wp2
  go_ret
  exact ⟨rfl, HB.out⟩
set_option maxHeartbeats 8000000 in
set_option maxRecDepth 100000 in
theorem memWrites_3 (A0 : Option Addr) (c0 : Nat) (l : List S40) (h : Bool) (p m b : Int) (Aa : Option Addr) (ca : Nat) (la : List Int) (Ab : Option Addr) (cb : Nat) (lb : List Int) (w : World) (hr0 : Kd.C k40 w A0 l.length l) (hc0 : l.length ≤ c0) (hra : Kd.C (Kd.int .u8) w Aa la.length la) (hca : la.length ≤ ca) (hrb : Kd.C (Kd.int .u8) w Ab lb.length lb) (hcb : lb.length ≤ cb) (hx : ¬ 2000 < l.length) (hy : ¬ 1000 < la.length) (hz : lb.length ≠ la.length) :
    Calls Try.prog 9 #[.agg #[.bool h, .int .i64 p, .int .i64 m, .slice A0 l.length c0], .int .i64 b, .slice Aa la.length ca, .slice Ab lb.length cb] w fun e w' => e = .returned (.bool true) ∧ Below w.heap.size w w' := by
  have HB := Aside0.mk (Below.refl w.heap.size w)
  have HR := Aside0.mk hr0
  have HC := Aside0.mk hc0
  have HRA := Aside0.mk hra
  have HCA := Aside0.mk hca
  have HRB := Aside0.mk hrb
  have HCB := Aside0.mk hcb
  clear hr0 hc0 hra hca hrb hcb
  have c_2000 : decide (2000 < (l.length : Int)) = false := decide_eq_false (by omega)
  have d_2000 : decide (2000 < l.length) = false := decide_eq_false (by omega)
  have c_1000 : decide (1000 < (la.length : Int)) = false := decide_eq_false (by omega)
  have d_1000 : decide (1000 < la.length) = false := decide_eq_false (by omega)
  have n1 : ((lb.length : Int) != (la.length : Int)) = true := by simp; omega
  have n2 : (lb.length != la.length) = true := by simp; omega
  have n3 : (lb.length == la.length) = false := by simp; omega
  have n4 : decide (lb.length = la.length) = false := by simp; omega
  go_enter Try.func9, Try.ntmps9
  go_upto_region 1 with (fail)
  have m0_ := Aside0.mk (HB.out.alloc HB.out.size (.cells #[.bool h, .int .i64 p, .int .i64 m, .slice A0 l.length c0] 26))
  have m1_ := Aside0.mk (Kd.C_alloc HR.out (.cells #[.bool h, .int .i64 p, .int .i64 m, .slice A0 l.length c0] 26))
  have m2_ := Aside0.mk (Kd.C_alloc HRA.out (.cells #[.bool h, .int .i64 p, .int .i64 m, .slice A0 l.length c0] 26))
  have m3_ := Aside0.mk (Kd.C_alloc HRB.out (.cells #[.bool h, .int .i64 p, .int .i64 m, .slice A0 l.length c0] 26))
  clear HB HR HRA HRB
  have HB := m0_
  have HR := m1_
  have HRA := m2_
  have HRB := m3_
  clear m0_ m1_ m2_ m3_
  have HK : Aside0 ((w.alloc (.cells #[.bool h, .int .i64 p, .int .i64 m, .slice A0 l.length c0] 26)).heap[w.heap.size]? = some (.cells #[.bool h, .int .i64 p, .int .i64 m, .slice A0 l.length c0] 26 (0, 0))) := ⟨heap_alloc_new _ _⟩
  generalize w.alloc (.cells #[.bool h, .int .i64 p, .int .i64 m, .slice A0 l.length c0] 26) = w1 at HB HR HRA HRB HK ⊢
  obtain ⟨g, hg_⟩ : ∃ g_, w.heap.size = g_ := ⟨_, rfl⟩
  rw [hg_] at HK ⊢
  have HG_ := Aside0.mk hg_
  clear hg_
  go_upto_region 2 with (first | (go_at_call 18; refine (alive_any _).mono ?_; rintro e w2 ⟨rfl, hb⟩; have m0_ := Aside0.mk (below_step HB.out hb); have m1_ := Aside0.mk (Kd.C_below HR.out hb); have m2_ := Aside0.mk (Kd.C_below HRA.out hb); have m3_ := Aside0.mk (Kd.C_below HRB.out hb); have m4_ := Aside0.mk (blk_below HK.out hb); clear HB HR HRA HRB HK; have HB := m0_; have HR := m1_; have HRA := m2_; have HRB := m3_; have HK := m4_; clear m0_ m1_ m2_ m3_ m4_; clear hb) | fail)
  obtain ⟨k0, k1, k2, k3⟩ := blk4 HK.out
  go_wp2
  go_ret
  exact ⟨rfl, HB.out⟩
set_option maxHeartbeats 8000000 in
set_option maxRecDepth 100000 in
theorem memWrites_4 (A0 : Option Addr) (c0 : Nat) (l : List S40) (h : Bool) (p m b : Int) (Aa : Option Addr) (ca : Nat) (la : List Int) (Ab : Option Addr) (cb : Nat) (lb : List Int) (w : World) (hr0 : Kd.C k40 w A0 l.length l) (hc0 : l.length ≤ c0) (hra : Kd.C (Kd.int .u8) w Aa la.length la) (hca : la.length ≤ ca) (hrb : Kd.C (Kd.int .u8) w Ab la.length lb) (hcb : la.length ≤ cb) (hx : ¬ 2000 < l.length) (hy : ¬ 1000 < la.length) (hz : lb.length = la.length) (K : Nat) (e_ : Int) (he : e_ ≠ 0) (hwr : mem_Write.f K h p m l b la = some (false, 0, 0, [], e_)) (hsa : bytebarnref13_Same.f K false 0 0 [] false 0 0 [] = some true) :
    Calls Try.prog 9 #[.agg #[.bool h, .int .i64 p, .int .i64 m, .slice A0 l.length c0], .int .i64 b, .slice Aa la.length ca, .slice Ab la.length cb] w fun e w' => e = .returned (.bool true) ∧ Below w.heap.size w w' := by
  have HB := Aside0.mk (Below.refl w.heap.size w)
  have HR := Aside0.mk hr0
  have HC := Aside0.mk hc0
  have HRA := Aside0.mk hra
  have HCA := Aside0.mk hca
  have HRB := Aside0.mk hrb
  have HCB := Aside0.mk hcb
  clear hr0 hc0 hra hca hrb hcb
  have HWR := Aside0.mk hwr
  clear hwr
  have HZ := Aside0.mk hz
  clear hz
  have c_2000 : decide (2000 < (l.length : Int)) = false := decide_eq_false (by omega)
  have d_2000 : decide (2000 < l.length) = false := decide_eq_false (by omega)
  have c_1000 : decide (1000 < (la.length : Int)) = false := decide_eq_false (by omega)
  have d_1000 : decide (1000 < la.length) = false := decide_eq_false (by omega)
  go_enter Try.func9, Try.ntmps9
  go_upto_region 1 with (fail)
  have m0_ := Aside0.mk (HB.out.alloc HB.out.size (.cells #[.bool h, .int .i64 p, .int .i64 m, .slice A0 l.length c0] 26))
  have m1_ := Aside0.mk (Kd.C_alloc HR.out (.cells #[.bool h, .int .i64 p, .int .i64 m, .slice A0 l.length c0] 26))
  have m2_ := Aside0.mk (Kd.C_alloc HRA.out (.cells #[.bool h, .int .i64 p, .int .i64 m, .slice A0 l.length c0] 26))
  have m3_ := Aside0.mk (Kd.C_alloc HRB.out (.cells #[.bool h, .int .i64 p, .int .i64 m, .slice A0 l.length c0] 26))
  clear HB HR HRA HRB
  have HB := m0_
  have HR := m1_
  have HRA := m2_
  have HRB := m3_
  clear m0_ m1_ m2_ m3_
  have HK : Aside0 ((w.alloc (.cells #[.bool h, .int .i64 p, .int .i64 m, .slice A0 l.length c0] 26)).heap[w.heap.size]? = some (.cells #[.bool h, .int .i64 p, .int .i64 m, .slice A0 l.length c0] 26 (0, 0))) := ⟨heap_alloc_new _ _⟩
  generalize w.alloc (.cells #[.bool h, .int .i64 p, .int .i64 m, .slice A0 l.length c0] 26) = w1 at HB HR HRA HRB HK ⊢
  obtain ⟨g, hg_⟩ : ∃ g_, w.heap.size = g_ := ⟨_, rfl⟩
  rw [hg_] at HK ⊢
  have HG_ := Aside0.mk hg_
  clear hg_
  go_upto_region 2 with (first | (go_at_call 18; refine (alive_any _).mono ?_; rintro e w2 ⟨rfl, hb⟩; have m0_ := Aside0.mk (below_step HB.out hb); have m1_ := Aside0.mk (Kd.C_below HR.out hb); have m2_ := Aside0.mk (Kd.C_below HRA.out hb); have m3_ := Aside0.mk (Kd.C_below HRB.out hb); have m4_ := Aside0.mk (blk_below HK.out hb); clear HB HR HRA HRB HK; have HB := m0_; have HR := m1_; have HRA := m2_; have HRB := m3_; have HK := m4_; clear m0_ m1_ m2_ m3_ m4_; clear hb) | fail)
  obtain ⟨k0, k1, k2, k3⟩ := blk4 HK.out
  go_upto_region 5 with (first | (go_at_call 27; refine (mem_Write.calls _ _ _ _ _ _ _ _ _ _ _ _ _ _ _ _ _ HR.out HC.out HRA.out HCA.out HWR.out).mono ?_; rintro e w3 ⟨v3, rfl, ho3, hb⟩; have m0_ := Aside0.mk (below_step HB.out hb); have m1_ := Aside0.mk (Kd.C_below HR.out hb); have m2_ := Aside0.mk (Kd.C_below HRA.out hb); have m3_ := Aside0.mk (Kd.C_below HRB.out hb); have m4_ := Aside0.mk (blk_below HK.out hb); clear HB HR HRA HRB HK; have HB := m0_; have HR := m1_; have HRA := m2_; have HRB := m3_; have HK := m4_; clear m0_ m1_ m2_ m3_ m4_; obtain ⟨A3, c3, rfl⟩ := Kd.R_slice ho3; have HC3 := Aside0.mk (Kd.R_reads' ho3).2.2; have HL3 := Aside0.mk (Kd.R_reads' ho3).2.1; clear ho3; clear hb) | fail)
  have m0_ := Aside0.mk (HB.out.alloc HB.out.size (.cells #[.bool false, .int .i64 0, .int .i64 0, .slice A3 0 c3] 26))
  have m1_ := Aside0.mk (Kd.C_alloc HR.out (.cells #[.bool false, .int .i64 0, .int .i64 0, .slice A3 0 c3] 26))
  have m2_ := Aside0.mk (Kd.C_alloc HRA.out (.cells #[.bool false, .int .i64 0, .int .i64 0, .slice A3 0 c3] 26))
  have m3_ := Aside0.mk (Kd.C_alloc HRB.out (.cells #[.bool false, .int .i64 0, .int .i64 0, .slice A3 0 c3] 26))
  have m4_ := Aside0.mk (blk_alloc HK.out (.cells #[.bool false, .int .i64 0, .int .i64 0, .slice A3 0 c3] 26))
  have m5_ := Aside0.mk (Kd.C_alloc HC3.out (.cells #[.bool false, .int .i64 0, .int .i64 0, .slice A3 0 c3] 26))
  clear HB HR HRA HRB HK HC3
  have HB := m0_
  have HR := m1_
  have HRA := m2_
  have HRB := m3_
  have HK := m4_
  have HC3 := m5_
  clear m0_ m1_ m2_ m3_ m4_ m5_
  have HK3 : Aside0 ((w3.alloc (.cells #[.bool false, .int .i64 0, .int .i64 0, .slice A3 0 c3] 26)).heap[w3.heap.size]? = some (.cells #[.bool false, .int .i64 0, .int .i64 0, .slice A3 0 c3] 26 (0, 0))) := ⟨heap_alloc_new _ _⟩
  generalize w3.alloc (.cells #[.bool false, .int .i64 0, .int .i64 0, .slice A3 0 c3] 26) = w4 at HB HR HRA HRB HK HC3 HK3 ⊢
  generalize w3.heap.size = g3 at HK3 ⊢
  clear k0 k1 k2 k3
  obtain ⟨k0, k1, k2, k3⟩ := blk4 HK.out
  obtain ⟨j0, j1, j2, j3⟩ := blk4 HK3.out
  have e1 : (e_ == 0) = false := beq_eq_false_iff_ne.mpr he
  have e2 : (e_ != 0) = true := bne_iff_ne.mpr he
  have HSA := Aside0.mk hsa
  clear hsa
  go_wp2_with (first | (go_at_call 15; refine (bytebarnref13_Same.calls _ _ _ _ A3 c3 [] _ _ _ none 0 [] true _ HC3.out HL3.out (Kd.C_nil _ _) (Nat.le_refl _) HSA.out).mono ?_; rintro e w5 ⟨rfl, hb⟩; have m0_ := Aside0.mk (below_step HB.out hb); have m1_ := Aside0.mk (Kd.C_below HR.out hb); have m2_ := Aside0.mk (Kd.C_below HRA.out hb); have m3_ := Aside0.mk (Kd.C_below HRB.out hb); have m4_ := Aside0.mk (blk_below HK.out hb); have m5_ := Aside0.mk (Kd.C_below HC3.out hb); have m6_ := Aside0.mk (blk_below HK3.out hb); clear HB HR HRA HRB HK HC3 HK3; have HB := m0_; have HR := m1_; have HRA := m2_; have HRB := m3_; have HK := m4_; have HC3 := m5_; have HK3 := m6_; clear m0_ m1_ m2_ m3_ m4_ m5_ m6_; clear hb) | fail)
  go_ret
  exact ⟨rfl, HB.out⟩
set_option maxHeartbeats 8000000 in
set_option maxRecDepth 100000 in
theorem memWrites_5 (A0 : Option Addr) (c0 : Nat) (l : List S40) (h : Bool) (p m b : Int) (Aa : Option Addr) (ca : Nat) (la : List Int) (Ab : Option Addr) (cb : Nat) (lb : List Int) (w : World) (hr0 : Kd.C k40 w A0 l.length l) (hc0 : l.length ≤ c0) (hra : Kd.C (Kd.int .u8) w Aa la.length la) (hca : la.length ≤ ca) (hrb : Kd.C (Kd.int .u8) w Ab la.length lb) (hcb : la.length ≤ cb) (hx : ¬ 2000 < l.length) (hy : ¬ 1000 < la.length) (hz : lb.length = la.length) (K : Nat) (l1 l2 : List S40) (hwr : mem_Write.f K h p m l b la = some (h, p, m, l1, 0)) (hby : mem_Bytes.f K h p m l1 b (la.length : Int) = some (la, 0)) (hw2 : mem_Write.f K h p m l1 b lb = some (h, p, m, l2, 0)) (hw3 : mem_Write.f K h p m l b lb = some (h, p, m, l2, 0)) (hsa : bytebarnref13_Same.f K h p m l2 h p m l2 = some true) (hck : mem_Check.f K h p m l1 = some 0) :
    Calls Try.prog 9 #[.agg #[.bool h, .int .i64 p, .int .i64 m, .slice A0 l.length c0], .int .i64 b, .slice Aa la.length ca, .slice Ab la.length cb] w fun e w' => e = .returned (.bool true) ∧ Below w.heap.size w w' := by
  have HB := Aside0.mk (Below.refl w.heap.size w)
  have HR := Aside0.mk hr0
  have HC := Aside0.mk hc0
  have HRA := Aside0.mk hra
  have HCA := Aside0.mk hca
  have HRB := Aside0.mk hrb
  have HCB := Aside0.mk hcb
  clear hr0 hc0 hra hca hrb hcb
  have HWR := Aside0.mk hwr
  clear hwr
  have HBY := Aside0.mk hby
  clear hby
  have HW2 := Aside0.mk hw2
  clear hw2
  have HW3 := Aside0.mk hw3
  clear hw3
  have HSA := Aside0.mk hsa
  clear hsa
  have HCK := Aside0.mk hck
  clear hck
  have HZ := Aside0.mk hz
  clear hz
  have c_2000 : decide (2000 < (l.length : Int)) = false := decide_eq_false (by omega)
  have d_2000 : decide (2000 < l.length) = false := decide_eq_false (by omega)
  have c_1000 : decide (1000 < (la.length : Int)) = false := decide_eq_false (by omega)
  have d_1000 : decide (1000 < la.length) = false := decide_eq_false (by omega)
  go_enter Try.func9, Try.ntmps9
  go_upto_region 1 with (fail)
  have m0_ := Aside0.mk (HB.out.alloc HB.out.size (.cells #[.bool h, .int .i64 p, .int .i64 m, .slice A0 l.length c0] 26))
  have m1_ := Aside0.mk (Kd.C_alloc HR.out (.cells #[.bool h, .int .i64 p, .int .i64 m, .slice A0 l.length c0] 26))
  have m2_ := Aside0.mk (Kd.C_alloc HRA.out (.cells #[.bool h, .int .i64 p, .int .i64 m, .slice A0 l.length c0] 26))
  have m3_ := Aside0.mk (Kd.C_alloc HRB.out (.cells #[.bool h, .int .i64 p, .int .i64 m, .slice A0 l.length c0] 26))
  clear HB HR HRA HRB
  have HB := m0_
  have HR := m1_
  have HRA := m2_
  have HRB := m3_
  clear m0_ m1_ m2_ m3_
  have HK : Aside0 ((w.alloc (.cells #[.bool h, .int .i64 p, .int .i64 m, .slice A0 l.length c0] 26)).heap[w.heap.size]? = some (.cells #[.bool h, .int .i64 p, .int .i64 m, .slice A0 l.length c0] 26 (0, 0))) := ⟨heap_alloc_new _ _⟩
  generalize w.alloc (.cells #[.bool h, .int .i64 p, .int .i64 m, .slice A0 l.length c0] 26) = w1 at HB HR HRA HRB HK ⊢
  obtain ⟨g, hg_⟩ : ∃ g_, w.heap.size = g_ := ⟨_, rfl⟩
  rw [hg_] at HK ⊢
  have HG_ := Aside0.mk hg_
  clear hg_
  go_upto_region 2 with (first | (go_at_call 18; refine (alive_any _).mono ?_; rintro e w2 ⟨rfl, hb⟩; have m0_ := Aside0.mk (below_step HB.out hb); have m1_ := Aside0.mk (Kd.C_below HR.out hb); have m2_ := Aside0.mk (Kd.C_below HRA.out hb); have m3_ := Aside0.mk (Kd.C_below HRB.out hb); have m4_ := Aside0.mk (blk_below HK.out hb); clear HB HR HRA HRB HK; have HB := m0_; have HR := m1_; have HRA := m2_; have HRB := m3_; have HK := m4_; clear m0_ m1_ m2_ m3_ m4_; clear hb) | fail)
  obtain ⟨k0, k1, k2, k3⟩ := blk4 HK.out
  go_upto_region 5 with (first | (go_at_call 27; refine (mem_Write.calls _ _ _ _ _ _ _ _ _ _ _ _ _ _ _ _ _ HR.out HC.out HRA.out HCA.out HWR.out).mono ?_; rintro e w3 ⟨v3, rfl, ho3, hb⟩; have m0_ := Aside0.mk (below_step HB.out hb); have m1_ := Aside0.mk (Kd.C_below HR.out hb); have m2_ := Aside0.mk (Kd.C_below HRA.out hb); have m3_ := Aside0.mk (Kd.C_below HRB.out hb); have m4_ := Aside0.mk (blk_below HK.out hb); clear HB HR HRA HRB HK; have HB := m0_; have HR := m1_; have HRA := m2_; have HRB := m3_; have HK := m4_; clear m0_ m1_ m2_ m3_ m4_; obtain ⟨A3, c3, rfl⟩ := Kd.R_slice ho3; have HC3 := Aside0.mk (Kd.R_reads' ho3).2.2; have HL3 := Aside0.mk (Kd.R_reads' ho3).2.1; clear ho3; clear hb) | fail)
  have m0_ := Aside0.mk (HB.out.alloc HB.out.size (.cells #[.bool h, .int .i64 p, .int .i64 m, .slice A3 l1.length c3] 26))
  have m1_ := Aside0.mk (Kd.C_alloc HR.out (.cells #[.bool h, .int .i64 p, .int .i64 m, .slice A3 l1.length c3] 26))
  have m2_ := Aside0.mk (Kd.C_alloc HRA.out (.cells #[.bool h, .int .i64 p, .int .i64 m, .slice A3 l1.length c3] 26))
  have m3_ := Aside0.mk (Kd.C_alloc HRB.out (.cells #[.bool h, .int .i64 p, .int .i64 m, .slice A3 l1.length c3] 26))
  have m4_ := Aside0.mk (blk_alloc HK.out (.cells #[.bool h, .int .i64 p, .int .i64 m, .slice A3 l1.length c3] 26))
  have m5_ := Aside0.mk (Kd.C_alloc HC3.out (.cells #[.bool h, .int .i64 p, .int .i64 m, .slice A3 l1.length c3] 26))
  clear HB HR HRA HRB HK HC3
  have HB := m0_
  have HR := m1_
  have HRA := m2_
  have HRB := m3_
  have HK := m4_
  have HC3 := m5_
  clear m0_ m1_ m2_ m3_ m4_ m5_
  have HK3 : Aside0 ((w3.alloc (.cells #[.bool h, .int .i64 p, .int .i64 m, .slice A3 l1.length c3] 26)).heap[w3.heap.size]? = some (.cells #[.bool h, .int .i64 p, .int .i64 m, .slice A3 l1.length c3] 26 (0, 0))) := ⟨heap_alloc_new _ _⟩
  generalize w3.alloc (.cells #[.bool h, .int .i64 p, .int .i64 m, .slice A3 l1.length c3] 26) = w4 at HB HR HRA HRB HK HC3 HK3 ⊢
  generalize w3.heap.size = g3 at HK3 ⊢
  clear k0 k1 k2 k3
  obtain ⟨k0, k1, k2, k3⟩ := blk4 HK.out
  obtain ⟨j0, j1, j2, j3⟩ := blk4 HK3.out
  go_upto_region 8 with (first | (go_at_call 12; refine (mem_Bytes.calls _ _ _ _ _ _ _ _ _ _ _ _ HC3.out HL3.out HBY.out).mono ?_; rintro e w5 ⟨vg, rfl, hog, hb⟩; have m0_ := Aside0.mk (below_step HB.out hb); have m1_ := Aside0.mk (Kd.C_below HR.out hb); have m2_ := Aside0.mk (Kd.C_below HRA.out hb); have m3_ := Aside0.mk (Kd.C_below HRB.out hb); have m4_ := Aside0.mk (blk_below HK.out hb); have m5_ := Aside0.mk (Kd.C_below HC3.out hb); have m6_ := Aside0.mk (blk_below HK3.out hb); clear HB HR HRA HRB HK HC3 HK3; have HB := m0_; have HR := m1_; have HRA := m2_; have HRB := m3_; have HK := m4_; have HC3 := m5_; have HK3 := m6_; clear m0_ m1_ m2_ m3_ m4_ m5_ m6_; obtain ⟨Ag, cg, rfl⟩ := Kd.R_slice hog; have HCG := Aside0.mk (Kd.R_reads' hog).2.2; have HLG := Aside0.mk (Kd.R_reads' hog).2.1; clear hog; clear hb) | fail)
  clear k0 k1 k2 k3 j0 j1 j2 j3
  obtain ⟨k0, k1, k2, k3⟩ := blk4 HK.out
  obtain ⟨j0, j1, j2, j3⟩ := blk4 HK3.out
  go_upto_region 9 with (first | (go_at_call 27; refine (mem_Write_at HC3.out HL3.out HRB.out HCB.out HW2.out HZ.out).mono ?_; rintro e w6 ⟨v6, rfl, ho6, hb⟩; have m0_ := Aside0.mk (below_step HB.out hb); have m1_ := Aside0.mk (Kd.C_below HR.out hb); have m2_ := Aside0.mk (Kd.C_below HRA.out hb); have m3_ := Aside0.mk (Kd.C_below HRB.out hb); have m4_ := Aside0.mk (blk_below HK.out hb); have m5_ := Aside0.mk (Kd.C_below HC3.out hb); have m6_ := Aside0.mk (blk_below HK3.out hb); have m7_ := Aside0.mk (Kd.C_below HCG.out hb); clear HB HR HRA HRB HK HC3 HK3 HCG; have HB := m0_; have HR := m1_; have HRA := m2_; have HRB := m3_; have HK := m4_; have HC3 := m5_; have HK3 := m6_; have HCG := m7_; clear m0_ m1_ m2_ m3_ m4_ m5_ m6_ m7_; obtain ⟨A6, c6, rfl⟩ := Kd.R_slice ho6; have HC6 := Aside0.mk (Kd.R_reads' ho6).2.2; have HL6 := Aside0.mk (Kd.R_reads' ho6).2.1; clear ho6; clear hb) | fail)
  have m0_ := Aside0.mk (HB.out.alloc HB.out.size (.cells #[.bool h, .int .i64 p, .int .i64 m, .slice A6 l2.length c6] 26))
  have m1_ := Aside0.mk (Kd.C_alloc HR.out (.cells #[.bool h, .int .i64 p, .int .i64 m, .slice A6 l2.length c6] 26))
  have m2_ := Aside0.mk (Kd.C_alloc HRA.out (.cells #[.bool h, .int .i64 p, .int .i64 m, .slice A6 l2.length c6] 26))
  have m3_ := Aside0.mk (Kd.C_alloc HRB.out (.cells #[.bool h, .int .i64 p, .int .i64 m, .slice A6 l2.length c6] 26))
  have m4_ := Aside0.mk (blk_alloc HK.out (.cells #[.bool h, .int .i64 p, .int .i64 m, .slice A6 l2.length c6] 26))
  have m5_ := Aside0.mk (Kd.C_alloc HC3.out (.cells #[.bool h, .int .i64 p, .int .i64 m, .slice A6 l2.length c6] 26))
  have m6_ := Aside0.mk (blk_alloc HK3.out (.cells #[.bool h, .int .i64 p, .int .i64 m, .slice A6 l2.length c6] 26))
  have m7_ := Aside0.mk (Kd.C_alloc HCG.out (.cells #[.bool h, .int .i64 p, .int .i64 m, .slice A6 l2.length c6] 26))
  have m8_ := Aside0.mk (Kd.C_alloc HC6.out (.cells #[.bool h, .int .i64 p, .int .i64 m, .slice A6 l2.length c6] 26))
  clear HB HR HRA HRB HK HC3 HK3 HCG HC6
  have HB := m0_
  have HR := m1_
  have HRA := m2_
  have HRB := m3_
  have HK := m4_
  have HC3 := m5_
  have HK3 := m6_
  have HCG := m7_
  have HC6 := m8_
  clear m0_ m1_ m2_ m3_ m4_ m5_ m6_ m7_ m8_
  have HK6 : Aside0 ((w6.alloc (.cells #[.bool h, .int .i64 p, .int .i64 m, .slice A6 l2.length c6] 26)).heap[w6.heap.size]? = some (.cells #[.bool h, .int .i64 p, .int .i64 m, .slice A6 l2.length c6] 26 (0, 0))) := ⟨heap_alloc_new _ _⟩
  generalize w6.alloc (.cells #[.bool h, .int .i64 p, .int .i64 m, .slice A6 l2.length c6] 26) = w7 at HB HR HRA HRB HK HC3 HK3 HCG HC6 HK6 ⊢
  generalize w6.heap.size = g6 at HK6 ⊢
  clear k0 k1 k2 k3 j0 j1 j2 j3
  obtain ⟨k0, k1, k2, k3⟩ := blk4 HK.out
  obtain ⟨j0, j1, j2, j3⟩ := blk4 HK3.out
  go_upto_region 10 with (first | (go_at_call 27; refine (mem_Write_at HR.out HC.out HRB.out HCB.out HW3.out HZ.out).mono ?_; rintro e w8 ⟨v8, rfl, ho8, hb⟩; have m0_ := Aside0.mk (below_step HB.out hb); have m1_ := Aside0.mk (Kd.C_below HR.out hb); have m2_ := Aside0.mk (Kd.C_below HRA.out hb); have m3_ := Aside0.mk (Kd.C_below HRB.out hb); have m4_ := Aside0.mk (blk_below HK.out hb); have m5_ := Aside0.mk (Kd.C_below HC3.out hb); have m6_ := Aside0.mk (blk_below HK3.out hb); have m7_ := Aside0.mk (Kd.C_below HCG.out hb); have m8_ := Aside0.mk (Kd.C_below HC6.out hb); have m9_ := Aside0.mk (blk_below HK6.out hb); clear HB HR HRA HRB HK HC3 HK3 HCG HC6 HK6; have HB := m0_; have HR := m1_; have HRA := m2_; have HRB := m3_; have HK := m4_; have HC3 := m5_; have HK3 := m6_; have HCG := m7_; have HC6 := m8_; have HK6 := m9_; clear m0_ m1_ m2_ m3_ m4_ m5_ m6_ m7_ m8_ m9_; obtain ⟨A8, c8, rfl⟩ := Kd.R_slice ho8; have HC8 := Aside0.mk (Kd.R_reads' ho8).2.2; have HL8 := Aside0.mk (Kd.R_reads' ho8).2.1; clear ho8; clear hb) | fail)
  have m0_ := Aside0.mk (HB.out.alloc HB.out.size (.cells #[.bool h, .int .i64 p, .int .i64 m, .slice A8 l2.length c8] 26))
  have m1_ := Aside0.mk (Kd.C_alloc HR.out (.cells #[.bool h, .int .i64 p, .int .i64 m, .slice A8 l2.length c8] 26))
  have m2_ := Aside0.mk (Kd.C_alloc HRA.out (.cells #[.bool h, .int .i64 p, .int .i64 m, .slice A8 l2.length c8] 26))
  have m3_ := Aside0.mk (Kd.C_alloc HRB.out (.cells #[.bool h, .int .i64 p, .int .i64 m, .slice A8 l2.length c8] 26))
  have m4_ := Aside0.mk (blk_alloc HK.out (.cells #[.bool h, .int .i64 p, .int .i64 m, .slice A8 l2.length c8] 26))
  have m5_ := Aside0.mk (Kd.C_alloc HC3.out (.cells #[.bool h, .int .i64 p, .int .i64 m, .slice A8 l2.length c8] 26))
  have m6_ := Aside0.mk (blk_alloc HK3.out (.cells #[.bool h, .int .i64 p, .int .i64 m, .slice A8 l2.length c8] 26))
  have m7_ := Aside0.mk (Kd.C_alloc HCG.out (.cells #[.bool h, .int .i64 p, .int .i64 m, .slice A8 l2.length c8] 26))
  have m8_ := Aside0.mk (Kd.C_alloc HC6.out (.cells #[.bool h, .int .i64 p, .int .i64 m, .slice A8 l2.length c8] 26))
  have m9_ := Aside0.mk (blk_alloc HK6.out (.cells #[.bool h, .int .i64 p, .int .i64 m, .slice A8 l2.length c8] 26))
  have m10_ := Aside0.mk (Kd.C_alloc HC8.out (.cells #[.bool h, .int .i64 p, .int .i64 m, .slice A8 l2.length c8] 26))
  clear HB HR HRA HRB HK HC3 HK3 HCG HC6 HK6 HC8
  have HB := m0_
  have HR := m1_
  have HRA := m2_
  have HRB := m3_
  have HK := m4_
  have HC3 := m5_
  have HK3 := m6_
  have HCG := m7_
  have HC6 := m8_
  have HK6 := m9_
  have HC8 := m10_
  clear m0_ m1_ m2_ m3_ m4_ m5_ m6_ m7_ m8_ m9_ m10_
  have HK8 : Aside0 ((w8.alloc (.cells #[.bool h, .int .i64 p, .int .i64 m, .slice A8 l2.length c8] 26)).heap[w8.heap.size]? = some (.cells #[.bool h, .int .i64 p, .int .i64 m, .slice A8 l2.length c8] 26 (0, 0))) := ⟨heap_alloc_new _ _⟩
  generalize w8.alloc (.cells #[.bool h, .int .i64 p, .int .i64 m, .slice A8 l2.length c8] 26) = w9 at HB HR HRA HRB HK HC3 HK3 HCG HC6 HK6 HC8 HK8 ⊢
  generalize w8.heap.size = g8 at HK8 ⊢
  clear k0 k1 k2 k3 j0 j1 j2 j3
  obtain ⟨k0, k1, k2, k3⟩ := blk4 HK3.out
  obtain ⟨j0, j1, j2, j3⟩ := blk4 HK6.out
  obtain ⟨i0, i1, i2, i3⟩ := blk4 HK8.out
  have sv0 : Sem.run Try.prog (convert 32 9 (.slice Ag la.length cg)) w9 = .ok (.string (strOfNums la)) w9 := Kd.C_string (P := Try.prog) (A := Ag) (c := cg) Try.underlying32 Try.underlying5 Try.underlying9 HCG.out
  have sv1 : Sem.run Try.prog (convert 32 9 (.slice Aa la.length ca)) w9 = .ok (.string (strOfNums la)) w9 := Kd.C_string (P := Try.prog) (A := Aa) (c := ca) Try.underlying32 Try.underlying5 Try.underlying9 HRA.out
  go_wp2_with (first | ((go_at_call 15; refine (bytebarnref13_Same.calls _ _ _ _ _ _ _ _ _ _ _ _ _ _ _ HC6.out HL6.out HC8.out HL8.out HSA.out).mono ?_; rintro e w10 ⟨rfl, hb⟩; have m0_ := Aside0.mk (below_step HB.out hb); have m1_ := Aside0.mk (Kd.C_below HR.out hb); have m2_ := Aside0.mk (Kd.C_below HRA.out hb); have m3_ := Aside0.mk (Kd.C_below HRB.out hb); have m4_ := Aside0.mk (blk_below HK.out hb); have m5_ := Aside0.mk (Kd.C_below HC3.out hb); have m6_ := Aside0.mk (blk_below HK3.out hb); have m7_ := Aside0.mk (Kd.C_below HCG.out hb); have m8_ := Aside0.mk (Kd.C_below HC6.out hb); have m9_ := Aside0.mk (blk_below HK6.out hb); have m10_ := Aside0.mk (Kd.C_below HC8.out hb); have m11_ := Aside0.mk (blk_below HK8.out hb); clear HB HR HRA HRB HK HC3 HK3 HCG HC6 HK6 HC8 HK8; have HB := m0_; have HR := m1_; have HRA := m2_; have HRB := m3_; have HK := m4_; have HC3 := m5_; have HK3 := m6_; have HCG := m7_; have HC6 := m8_; have HK6 := m9_; have HC8 := m10_; have HK8 := m11_; clear m0_ m1_ m2_ m3_ m4_ m5_ m6_ m7_ m8_ m9_ m10_ m11_; clear hb); (obtain ⟨k0, k1, k2, k3⟩ := blk4 HK3.out)) | (go_at_call 21; refine (mem_Check.calls _ _ _ _ _ _ _ _ _ HC3.out HL3.out HCK.out).mono ?_; rintro e w11 ⟨rfl, hb⟩; have m0_ := Aside0.mk (below_step HB.out hb); have m1_ := Aside0.mk (Kd.C_below HR.out hb); have m2_ := Aside0.mk (Kd.C_below HRA.out hb); have m3_ := Aside0.mk (Kd.C_below HRB.out hb); have m4_ := Aside0.mk (blk_below HK.out hb); have m5_ := Aside0.mk (Kd.C_below HC3.out hb); have m6_ := Aside0.mk (blk_below HK3.out hb); have m7_ := Aside0.mk (Kd.C_below HCG.out hb); have m8_ := Aside0.mk (Kd.C_below HC6.out hb); have m9_ := Aside0.mk (blk_below HK6.out hb); have m10_ := Aside0.mk (Kd.C_below HC8.out hb); have m11_ := Aside0.mk (blk_below HK8.out hb); clear HB HR HRA HRB HK HC3 HK3 HCG HC6 HK6 HC8 HK8; have HB := m0_; have HR := m1_; have HRA := m2_; have HRB := m3_; have HK := m4_; have HC3 := m5_; have HK3 := m6_; have HCG := m7_; have HC6 := m8_; have HK6 := m9_; have HC8 := m10_; have HK8 := m11_; clear m0_ m1_ m2_ m3_ m4_ m5_ m6_ m7_ m8_ m9_ m10_ m11_; clear hb) | fail)
  go_ret
  exact ⟨rfl, HB.out⟩
end Go.Proofs.Ytidojlacnamabaa
