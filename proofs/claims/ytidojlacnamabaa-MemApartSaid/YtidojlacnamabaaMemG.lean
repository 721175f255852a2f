/-
  mem.Grow's contract and the law's alive, by hand. No statement is proved here.
-/
import Derived.Test.YtidojlacnamabaaMemL
import Derived.Deep.RegionLaw
namespace Go.Proofs.Ytidojlacnamabaa
open Go.RowKit Go.Proofs.Ytidojlacnamabaa.PAll Go.Proofs.YtidojlacnamabaaW.PrintWords Go.Proofs.YtidojlacnamabaaW.PrintLast Go.Proofs.YtidojlacnamabaaW.PrintMore
set_option linter.unusedVariables false
theorem put4 {α : Type} {d : Kd α} {W w : World} {g t e base : Nat} {v0 v1 v2 v3 : Value} (u0 u1 u2 u3 : Value) {ok : Nat → Prop} {v : Value} {xs : List α} (hb : W.heap[g]? = some (.cells #[v0, v1, v2, v3] t (0, 0))) (hR : d.R e W base ok v xs) (ht : ∀ q, q ∈ e :: d.E → q ≠ t) (hw : Below w.heap.size w W) (hg : w.heap.size ≤ g) :
    ((((W.setCell ⟨g, 0, none⟩ u0).setCell ⟨g, 1, none⟩ u1).setCell ⟨g, 2, none⟩ u2).setCell ⟨g, 3, none⟩ u3).heap[g]? = some (.cells #[u0, u1, u2, u3] t (0, 0)) ∧
    d.R e ((((W.setCell ⟨g, 0, none⟩ u0).setCell ⟨g, 1, none⟩ u1).setCell ⟨g, 2, none⟩ u2).setCell ⟨g, 3, none⟩ u3) base ok v xs ∧
    (∀ b, b ≠ g → ((((W.setCell ⟨g, 0, none⟩ u0).setCell ⟨g, 1, none⟩ u1).setCell ⟨g, 2, none⟩ u2).setCell ⟨g, 3, none⟩ u3).heap[b]? = W.heap[b]?) ∧
    Below w.heap.size w ((((W.setCell ⟨g, 0, none⟩ u0).setCell ⟨g, 1, none⟩ u1).setCell ⟨g, 2, none⟩ u2).setCell ⟨g, 3, none⟩ u3) := by
  have h0 := blk_put hb 0 u0 (cs' := #[u0, v1, v2, v3]) rfl
  have h1 := blk_put h0 1 u1 (cs' := #[u0, u1, v2, v3]) rfl
  have h2 := blk_put h1 2 u2 (cs' := #[u0, u1, u2, v3]) rfl
  refine ⟨blk_put h2 3 u3 rfl, Kd.R_set (Kd.R_set (Kd.R_set (Kd.R_set hR hb ht 0 u0) h0 ht 1 u1) h1 ht 2 u2) h2 ht 3 u3, fun b hne => ?_, below_set (below_set (below_set (below_set hw hg) hg) hg) hg⟩
  rw [Below.heap_setCell _ _ _ _ hne, Below.heap_setCell _ _ _ _ hne, Below.heap_setCell _ _ _ _ hne, Below.heap_setCell _ _ _ _ hne]
def memGrowF (k : Nat) (h : Bool) (p m : Int) (l : List S40) (by_ : Int) : Option (Bool × Int × Int × List S40 × Int × Int) :=
  (mem_there.f k h p m l).bind fun t => if t = 0 then ((num_Fits.f 127 by_).bind fun u => if u = true then (if l.length < 8796093022208 then (if by_ % 4294967296 ≤ wrap64 (m - p) then some (h, wrap64 (p + by_ % 4294967296), m, l, p, 0) else some (h, p, m, l, -1, 0)) else none) else some (false, 0, 0, [], 0, 2)) else some (false, 0, 0, [], 0, t)
set_option maxHeartbeats 8000000 in
set_option maxRecDepth 100000 in
theorem memGrow_calls (k : Nat) (h : Bool) (p m : Int) (A0 : Option Addr) (c0 : Nat) (l : List S40) (by_ : Int) (r1 : Bool) (r2 r3 : Int) (r4 : List S40) (r5 r6 : Int) (w : World) (hr0 : Kd.C k40 w A0 l.length l) (hc0 : l.length ≤ c0) (hf : memGrowF k h p m l by_ = some (r1, r2, r3, r4, r5, r6)) :
    Calls Try.prog 25 #[.agg #[.bool h, .int .i64 p, .int .i64 m, .slice A0 l.length c0], .int .i64 by_] w fun e w' => ∃ v3_ : Value, e = .returned (.tuple #[.agg #[.bool r1, .int .i64 r2, .int .i64 r3, v3_], .int .i64 r5, .int .i64 r6]) ∧ Kd.R k40 40 w' w.heap.size (fun _ => True) v3_ r4 ∧ Below w.heap.size w w' := by
  unfold memGrowF at hf
  obtain ⟨t, h1, h2⟩ := Option.bind_eq_some_iff.mp hf
  clear hf
  have hbx : Below w.heap.size w ((w.alloc (.cells #[.bool h, .int .i64 p, .int .i64 m, .slice A0 l.length c0] 26)).alloc (.cells #[.bool false, .int .i64 0, .int .i64 0, .slice none 0 0] 26)) := ((Below.refl _ w).alloc (Nat.le_refl _) _).alloc (by simp) _
  have hbk : ((w.alloc (.cells #[.bool h, .int .i64 p, .int .i64 m, .slice A0 l.length c0] 26)).alloc (.cells #[.bool false, .int .i64 0, .int .i64 0, .slice none 0 0] 26)).heap[w.heap.size]? = some (.cells #[.bool h, .int .i64 p, .int .i64 m, .slice A0 l.length c0] 26 (0, 0)) := blk_alloc (heap_alloc_new _ _) _
  have hbk2 : ((w.alloc (.cells #[.bool h, .int .i64 p, .int .i64 m, .slice A0 l.length c0] 26)).alloc (.cells #[.bool false, .int .i64 0, .int .i64 0, .slice none 0 0] 26)).heap[w.heap.size + 1]? = some (.cells #[.bool false, .int .i64 0, .int .i64 0, .slice none 0 0] 26 (0, 0)) := heap_alloc2_new _ _ _
  have hsz : w.heap.size + 1 < ((w.alloc (.cells #[.bool h, .int .i64 p, .int .i64 m, .slice A0 l.length c0] 26)).alloc (.cells #[.bool false, .int .i64 0, .int .i64 0, .slice none 0 0] 26)).heap.size := by simp
  go_enter Try.func25, Try.ntmps25
  go_upto_region 1 with (fail)
  generalize ((w.alloc (.cells #[.bool h, .int .i64 p, .int .i64 m, .slice A0 l.length c0] 26)).alloc (.cells #[.bool false, .int .i64 0, .int .i64 0, .slice none 0 0] 26)) = w1 at hbx hbk hbk2 hsz ⊢
  have HR := Aside0.mk (Kd.C_below hr0 hbx)
  have HC := Aside0.mk hc0
  have HBX := Aside0.mk hbx
  have HBK := Aside0.mk hbk
  have HBK2 := Aside0.mk hbk2
  have HSZ := Aside0.mk hsz
  have H1 := Aside0.mk h1
  have HB := Aside0.mk hbx
  obtain ⟨g, hg⟩ : ∃ g, w.heap.size = g := ⟨_, rfl⟩
  obtain ⟨g2, hg2⟩ : ∃ g, w.heap.size + 1 = g := ⟨_, rfl⟩
  obtain ⟨k0, k1, k2, k3⟩ := blk4 hbk
  rw [hg] at k0 k1 k2 k3 HBK ⊢
  rw [hg] at hg2
  rw [hg2]
  have hg2' : w.heap.size + 1 = g2 := by rw [hg, hg2]
  rw [hg2'] at HBK2 HSZ
  have HNE : Aside0 (g < g2) := ⟨by omega⟩
  have HG := Aside0.mk hg
  clear hr0 hc0 hbx hbk hbk2 hsz h1 hg hg2 hg2'
  have HG2 : Aside0 (w.heap.size ≤ g2) := ⟨by rw [HG.out]; exact Nat.le_of_lt HNE.out⟩
  by_cases c0 : t = 0
  · rw [if_pos c0] at h2
    subst c0
    obtain ⟨u, h3, h4⟩ := Option.bind_eq_some_iff.mp h2
    clear h2
    have H3 := Aside0.mk h3
    clear h3
    cases u with
    | false =>
      rw [if_neg (by simp)] at h4
      simp only [Option.some.injEq, Prod.mk.injEq] at h4
      obtain ⟨rfl, rfl, rfl, rfl, rfl, rfl⟩ := h4
      go_upto_region 5 with (first | (go_at_call 30; refine (mem_there.calls _ _ _ _ _ _ _ _ _ HR.out HC.out H1.out).mono ?_; rintro e w8 ⟨rfl, hb⟩; have HB2 := Aside0.mk hb; clear hb) | (go_at_call 39; refine (num_Fits.calls _ _ _ _ H3.out).mono ?_; rintro e w9 ⟨rfl, ⟨nd, rfl⟩⟩) | fail)
      have HK := Aside0.mk (blk_drewN (blk_below HBK2.out HB2.out) nd)
      obtain ⟨j0, j1, j2, j3⟩ := blk4 HK.out
      have f0 := blk_frozen HK.out 0
      have f1 := blk_frozen HK.out 1
      have f2 := blk_frozen HK.out 2
      have f3 := blk_frozen HK.out 3
      have HB3 := Aside0.mk (pw_below_drewN (below_step HB.out HB2.out) nd)
      generalize w8.drewN nd = w9 at HK j0 j1 j2 j3 f0 f1 f2 f3 HB3 ⊢
      go_wp2
      refine bodyPost_ret (results_ctt rfl _ _ g2 26 #[.bool false, .int .i64 0, .int .i64 0, .slice none 0 0] (0, 0) _ rfl (by refine blk_put (cs := #[.bool false, .int .i64 0, .int .i64 0, .slice none 0 0]) ?_ 3 _ rfl; refine blk_put (cs := #[.bool false, .int .i64 0, .int .i64 0, .slice none 0 0]) ?_ 2 _ rfl; refine blk_put (cs := #[.bool false, .int .i64 0, .int .i64 0, .slice none 0 0]) ?_ 1 _ rfl; refine blk_put (cs := #[.bool false, .int .i64 0, .int .i64 0, .slice none 0 0]) ?_ 0 _ rfl; exact HK.out) Try.underlying26 rfl (by kernel_rfl)) rfl ?_
      exact ⟨_, rfl, Kd.R_nil _ _ _ _ _, (by repeat (first | exact HB3.out | refine below_set ?_ HG2.out))⟩
    | true =>
      rw [if_pos rfl] at h4
      by_cases hlm : l.length < 8796093022208
      · rw [if_pos hlm] at h4
        have htw : mem_Twin.f h p m l = some (h, p, m, l) := by unfold mem_Twin.f api_Cell_36.f; rw [if_pos hlm]; rfl
        have HTW := Aside0.mk htw
        clear htw hlm
        go_upto_region 6 with (first | (go_at_call 30; refine (mem_there.calls _ _ _ _ _ _ _ _ _ HR.out HC.out H1.out).mono ?_; rintro e w8 ⟨rfl, hb⟩; have HB2 := Aside0.mk hb; clear hb) | (go_at_call 39; refine (num_Fits.calls _ _ _ _ H3.out).mono ?_; rintro e w9 ⟨rfl, ⟨nd, rfl⟩⟩) | fail)
        have HK0 := Aside0.mk (blk_drewN (blk_below HBK.out HB2.out) nd)
        have HK := Aside0.mk (blk_drewN (blk_below HBK2.out HB2.out) nd)
        have HB3 := Aside0.mk (pw_below_drewN (below_step HB.out HB2.out) nd)
        have HR3 := Aside0.mk (Kd.C_drewN (Kd.C_below HR.out HB2.out) nd)
        generalize w8.drewN nd = w9 at HK HK0 HB3 HR3 ⊢
        obtain ⟨k0, k1, k2, k3⟩ := blk4 HK0.out
        go_upto_region 7 with (first | (go_at_call 14; refine (mem_Twin.calls _ _ _ _ _ _ _ _ _ _ _ HR3.out HC.out HTW.out).mono ?_; rintro e w10 ⟨v3, rfl, ho, hb⟩; obtain ⟨Ab, cb, rfl⟩ := Kd.R_slice ho; have HB4 := Aside0.mk hb; have HO := Aside0.mk ho; have HK1 := Aside0.mk (blk_below HK.out hb); obtain ⟨j0, j1, j2, j3⟩ := blk4 HK1.out; have f0 := blk_frozen HK1.out 0; have f1 := blk_frozen HK1.out 1; have f2 := blk_frozen HK1.out 2; have f3 := blk_frozen HK1.out 3; clear hb ho) | fail)
        have HB5 := below_step HB3.out HB4.out
        obtain ⟨p1, p2, p3, p4⟩ := put4 (.bool h) (.int .i64 p) (.int .i64 m) (.slice Ab l.length cb) HK1.out (Kd.R_lower HO.out HB3.out.size) (by decide) HB5 HG2.out
        have p5 := (p3 g (by have := HNE.out; omega)).trans (blk_below HK0.out HB4.out)
        generalize ((((w10.setCell ⟨g2, 0, none⟩ (.bool h)).setCell ⟨g2, 1, none⟩ (.int .i64 p)).setCell ⟨g2, 2, none⟩ (.int .i64 m)).setCell ⟨g2, 3, none⟩ (.slice Ab l.length cb)) = w11 at p1 p2 p4 p5 ⊢
        have HP1 := Aside0.mk p1
        have HP2 := Aside0.mk p2
        have HP4 := Aside0.mk p4
        have HP5 := Aside0.mk p5
        clear j0 j1 j2 j3 f0 f1 f2 f3 k0 k1 k2 k3 HB5 p1 p2 p3 p4 p5
        obtain ⟨k0, k1, k2, k3⟩ := blk4 HP5.out
        obtain ⟨j0, j1, j2, j3⟩ := blk4 HP1.out
        have f0 := blk_frozen HP1.out 0
        have f1 := blk_frozen HP1.out 1
        have f2 := blk_frozen HP1.out 2
        have f3 := blk_frozen HP1.out 3
        by_cases c9 : by_ % 4294967296 ≤ wrap64 (m - p)
        · rw [if_pos c9] at h4
          simp only [Option.some.injEq, Prod.mk.injEq] at h4
          obtain ⟨rfl, rfl, rfl, rfl, rfl, rfl⟩ := h4
          have c9b : decide (by_ % 4294967296 ≤ wrap64 (m - p)) = true := decide_eq_true c9
          go_wp2
          have q1 := blk_put HP1.out 1 (.int .i64 (wrap64 (p + by_ % 4294967296))) (cs' := #[.bool h, .int .i64 (wrap64 (p + by_ % 4294967296)), .int .i64 m, .slice Ab l.length cb]) rfl
          have q2 := Kd.R_set HP2.out HP1.out (by decide) 1 (.int .i64 (wrap64 (p + by_ % 4294967296)))
          have q4 := below_set (j := 1) (v := .int .i64 (wrap64 (p + by_ % 4294967296))) HP4.out HG2.out
          have q5 : (w11.setCell ⟨g2, 1, none⟩ (.int .i64 (wrap64 (p + by_ % 4294967296)))).heap[g]? = _ := (Below.heap_setCell _ _ _ g (by have := HNE.out; simp; omega)).trans HP5.out
          generalize (w11.setCell ⟨g2, 1, none⟩ (.int .i64 (wrap64 (p + by_ % 4294967296)))) = w12 at q1 q2 q4 q5 ⊢
          have HQ1 := Aside0.mk q1
          have HQ2 := Aside0.mk q2
          have HQ4 := Aside0.mk q4
          have HQ5 := Aside0.mk q5
          clear j0 j1 j2 j3 f0 f1 f2 f3 k0 k1 k2 k3 q1 q2 q4 q5
          obtain ⟨k0, k1, k2, k3⟩ := blk4 HQ5.out
          obtain ⟨j0, j1, j2, j3⟩ := blk4 HQ1.out
          have f0 := blk_frozen HQ1.out 0
          have f1 := blk_frozen HQ1.out 1
          have f2 := blk_frozen HQ1.out 2
          have f3 := blk_frozen HQ1.out 3
          have hne : g ≠ g2 := by have := HNE.out; omega
          go_region_law (fail)
          all_goals
            go_wp2
            obtain ⟨q1, q2, q3, q4⟩ := put4 (.bool h) (.int .i64 (wrap64 (p + by_ % 4294967296))) (.int .i64 m) (.slice Ab l.length cb) HQ1.out HQ2.out (by decide) HQ4.out HG2.out
            refine bodyPost_ret (results_ctt rfl _ _ g2 26 #[.bool h, .int .i64 (wrap64 (p + by_ % 4294967296)), .int .i64 m, .slice Ab l.length cb] (0, 0) _ rfl (blk_drew q1) Try.underlying26 rfl (by kernel_rfl)) rfl ?_
            exact ⟨_, rfl, Kd.R_drew q2, below_drew1 q4⟩
        · rw [if_neg c9] at h4
          simp only [Option.some.injEq, Prod.mk.injEq] at h4
          obtain ⟨rfl, rfl, rfl, rfl, rfl, rfl⟩ := h4
          have c9b : decide (by_ % 4294967296 ≤ wrap64 (m - p)) = false := decide_eq_false c9
          go_wp2
          obtain ⟨q1, q2, q3, q4⟩ := put4 (.bool h) (.int .i64 p) (.int .i64 m) (.slice Ab l.length cb) HP1.out HP2.out (by decide) HP4.out HG2.out
          refine bodyPost_ret (results_ctt rfl _ _ g2 26 #[.bool h, .int .i64 p, .int .i64 m, .slice Ab l.length cb] (0, 0) _ rfl q1 Try.underlying26 rfl (by kernel_rfl)) rfl ?_
          exact ⟨_, rfl, q2, q4⟩
      · rw [if_neg hlm] at h4; cases h4
  · rw [if_neg c0] at h2
    simp only [Option.some.injEq, Prod.mk.injEq] at h2
    obtain ⟨rfl, rfl, rfl, rfl, rfl, rfl⟩ := h2
    have cb : (t == 0) = false := beq_eq_false_iff_ne.mpr c0
    have cb1 : (t != 0) = true := bne_iff_ne.mpr c0
    clear c0
    go_upto_region 3 with (first | (go_at_call 30; refine (mem_there.calls _ _ _ _ _ _ _ _ _ HR.out HC.out H1.out).mono ?_; rintro e w8 ⟨rfl, hb⟩; have HB2 := Aside0.mk hb; clear hb) | fail)
    have HK := Aside0.mk (blk_below HBK2.out HB2.out)
    obtain ⟨j0, j1, j2, j3⟩ := blk4 HK.out
    have f0 := blk_frozen HK.out 0
    have f1 := blk_frozen HK.out 1
    have f2 := blk_frozen HK.out 2
    have f3 := blk_frozen HK.out 3
    go_wp2
    refine bodyPost_ret (results_ctt rfl _ _ g2 26 #[.bool false, .int .i64 0, .int .i64 0, .slice none 0 0] (0, 0) _ rfl (by refine blk_put (cs := #[.bool false, .int .i64 0, .int .i64 0, .slice none 0 0]) ?_ 3 _ rfl; refine blk_put (cs := #[.bool false, .int .i64 0, .int .i64 0, .slice none 0 0]) ?_ 2 _ rfl; refine blk_put (cs := #[.bool false, .int .i64 0, .int .i64 0, .slice none 0 0]) ?_ 1 _ rfl; refine blk_put (cs := #[.bool false, .int .i64 0, .int .i64 0, .slice none 0 0]) ?_ 0 _ rfl; exact HK.out) Try.underlying26 rfl (by kernel_rfl)) rfl ?_
    exact ⟨_, rfl, Kd.R_nil _ _ _ _ _, (by repeat (first | exact (below_step HB.out HB2.out) | refine below_set ?_ HG2.out))⟩
instance : DecidableEq S40 := fun a b => decidable_of_iff (a.f0 = b.f0 ∧ a.f1 = b.f1) ⟨fun h => by cases a; cases b; simp at h; simp [h.1, h.2], fun h => by rw [h]; exact ⟨rfl, rfl⟩⟩
theorem new_1 : mem_New.f 1 0 false = some (true, 1, 65536, [], 0) := by decide +kernel
theorem load_1 : memLoadF 40 true 1 65536 [] 40 65532 0 = some (0, 0, 0) := by decide +kernel
theorem load_2 : memLoadF 40 true 1 65536 [] 40 65533 0 = some (0, 4, 0) := by decide +kernel
theorem store_1 : mem_Store.f 40 true 1 65536 [] 59 0 5 66051 = some (true, 1, 65536, [⟨5, 3⟩, ⟨6, 2⟩], 0, 0) := by decide +kernel
set_option maxHeartbeats 8000000 in
set_option maxRecDepth 100000 in
theorem alive_any (w : World) : Calls Try.prog 18 #[] w fun e w' => e = .returned (.bool true) ∧ Below w.heap.size w w' := by
  have HB := Aside0.mk (Below.refl w.heap.size w)
  go_enter Try.func18, Try.ntmps18
  go_upto_region 2 with (first | (go_at_call 10; refine (mem_New.calls _ _ _ _ _ _ _ _ _ new_1).mono ?_; rintro e w8 ⟨v3, rfl, ho, hb⟩; obtain ⟨Ab, cb, rfl⟩ := Kd.R_slice ho; have HO := Aside0.mk ho; have HB1 := Aside0.mk hb; clear HB hb ho) | fail)
  have hbk : (w8.alloc (.cells #[.bool true, .int .i64 1, .int .i64 65536, .slice Ab 0 cb] 26)).heap[w8.heap.size]? = some (.cells #[.bool true, .int .i64 1, .int .i64 65536, .slice Ab 0 cb] 26 (0, 0)) := heap_alloc_new _ _
  have hsz : w8.heap.size < (w8.alloc (.cells #[.bool true, .int .i64 1, .int .i64 65536, .slice Ab 0 cb] 26)).heap.size := by simp
  have hC := Kd.C_alloc (Kd.R_reads' HO.out).2.2 (.cells #[.bool true, .int .i64 1, .int .i64 65536, .slice Ab 0 cb] 26)
  have hcb := (Kd.R_reads' HO.out).2.1
  have hB0 : Below w.heap.size w (w8.alloc (.cells #[.bool true, .int .i64 1, .int .i64 65536, .slice Ab 0 cb] 26)) := HB1.out.alloc HB1.out.size _
  generalize w8.alloc (.cells #[.bool true, .int .i64 1, .int .i64 65536, .slice Ab 0 cb] 26) = w1 at hbk hsz hC hB0 ⊢
  generalize w8.heap.size = g at hbk hsz ⊢
  have HBK := Aside0.mk hbk
  have HSZ := Aside0.mk hsz
  have HC := Aside0.mk hC
  have HCB := Aside0.mk hcb
  have HB0 := Aside0.mk hB0
  have HB := Aside0.mk (Below.refl w1.heap.size w1)
  clear HO HB1 hbk hsz hC hcb hB0
  obtain ⟨k0, k1, k2, k3⟩ := blk4 HBK.out
  go_upto_region 3 with (first | (go_at_call 20; refine (memLoad_calls 40 true 1 65536 Ab cb [] 40 65532 0 0 0 0 _ (Kd.C_below HC.out HB.out) HCB.out load_1).mono ?_; rintro e w9 ⟨rfl, hb⟩; have n0_ := Aside0.mk (below_step HB.out hb); clear HB; have HB := n0_; clear n0_ hb) | fail)
  obtain ⟨k0, k1, k2, k3⟩ := blk4 ((HB.out.block g HSZ.out).trans HBK.out)
  go_upto_region 4 with (first | (go_at_call 20; refine (memLoad_calls 40 true 1 65536 Ab cb [] 40 65533 0 0 4 0 _ (Kd.C_below HC.out HB.out) HCB.out load_2).mono ?_; rintro e w10 ⟨rfl, hb⟩; have n0_ := Aside0.mk (below_step HB.out hb); clear HB; have HB := n0_; clear n0_ hb) | fail)
  obtain ⟨k0, k1, k2, k3⟩ := blk4 ((HB.out.block g HSZ.out).trans HBK.out)
  go_upto_region 5 with (first | (go_at_call 19; refine (mem_Store.calls 40 true 1 65536 Ab cb [] 59 0 5 66051 _ _ _ _ _ _ _ (Kd.C_below HC.out HB.out) HCB.out store_1).mono ?_; rintro e w11 ⟨v4, rfl, ho, hb⟩; obtain ⟨As, cs, rfl⟩ := Kd.R_slice ho; have HO := Aside0.mk ho; have n0_ := Aside0.mk (below_step HB.out hb); clear HB; have HB := n0_; clear n0_ hb ho) | fail)
  have hC2 := Kd.C_alloc (Kd.R_reads' HO.out).2.2 (.cells #[.bool true, .int .i64 1, .int .i64 65536, .slice As 2 cs] 26)
  have hbk : (w11.alloc (.cells #[.bool true, .int .i64 1, .int .i64 65536, .slice As 2 cs] 26)).heap[w11.heap.size]? = some (.cells #[.bool true, .int .i64 1, .int .i64 65536, .slice As 2 cs] 26 (0, 0)) := heap_alloc_new _ _
  have HB5 := Aside0.mk (HB.out.alloc HB.out.size (.cells #[.bool true, .int .i64 1, .int .i64 65536, .slice As 2 cs] 26))
  generalize w11.alloc (.cells #[.bool true, .int .i64 1, .int .i64 65536, .slice As 2 cs] 26) = w12 at hbk hC2 HB5 ⊢
  generalize w11.heap.size = g2 at hbk ⊢
  obtain ⟨ad, rfl, hx0, hx1⟩ := at_T40 hC2 0 (by omega) (by simp)
  obtain ⟨ad', e', hy0, hy1⟩ := at_T40 hC2 1 (by omega) (by simp)
  cases e'
  obtain ⟨j0, j1, j2, j3⟩ := blk4 hbk
  simp [rd_T40, Addr.add] at hx0 hx1 hy0 hy1
  clear hC2 HO
  go_wp2
  go_ret
  exact ⟨rfl, HB0.out.trans (HB5.out.mono HB0.out.size)⟩
end Go.Proofs.Ytidojlacnamabaa
