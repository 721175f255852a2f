/-
  mem.Load's contract, by hand. No statement is proved here.
-/
import Derived.Test.YtidojlacnamabaaPAllx8
import Derived.Test.YtidojlacnamabaaPAllx6
import Derived.Test.YtidojlacnamabaaPAllx5
import Derived.Test.YtidojlacnamabaaPAllx3
import Derived.WideMake
namespace Go.Proofs.Ytidojlacnamabaa
open Go.RowKit Go.Proofs.Ytidojlacnamabaa.PAll Go.Proofs.YtidojlacnamabaaW.PrintWords Go.Proofs.YtidojlacnamabaaW.PrintLast Go.Proofs.YtidojlacnamabaaW.PrintMore
set_option linter.unusedVariables false
theorem alloc_setTop (w : World) (o o' : Obj) : ({ (w.alloc o) with heap := (w.alloc o).heap.setIfInBounds w.heap.size o' } : World) = w.alloc o' := by
  have : (w.alloc o).heap.setIfInBounds w.heap.size o' = (w.alloc o').heap := by
    simp only [World.alloc]
    apply Array.ext_getElem?
    intro i
    simp only [Array.getElem?_setIfInBounds, Array.getElem?_push, Array.size_push]
    by_cases h : w.heap.size = i
    · subst h; simp
    · have h' : ¬ i = w.heap.size := fun e => h e.symm
      simp [h, h']
  rw [this]
  rfl
theorem run_ins (w : World) (es : Array MapEntry) (c : Nat) (k : Int) (val : Value) (hf : Instr.findNow (.int .u8) (.int .u8 k) es.toList 0 = some none) :
    Sem.run Try.prog (Instr.mapUpdate 80 (.map (some w.heap.size)) (.int .u8 k) val) (w.alloc (.map es c)) = .ok () (w.alloc (.map (es.push ⟨.int .u8 k, val, c⟩) (c + 1))) := by
  have hb : (w.alloc (.map es c)).heap[w.heap.size]? = some (.map es c) := heap_alloc_new _ _
  have hk : Try.prog.underlying 5 = some (.int .u8) := Try.underlying5
  have hc : (Instr.checkKey false 10000 5 (.int .u8 k)).run Try.prog (w.alloc (.map es c)) = .ok () (w.alloc (.map es c)) := MapKept.run_checkKey (k := .int .u8 k) hk (by simp [MapKept.IsKey]) false 9999
  have hfin := alloc_setTop w (.map es c) (.map (es.push ⟨.int .u8 k, val, c⟩) (c + 1))
  rw [← hfin]
  simp [Instr.mapUpdate, run_underlying Try.underlying80, MapKept.run_getObj_map hb, hc, MapKept.run_findKey hk hf, MapKept.run_setObj_map _ hb, Result.andThen]
theorem run_look_hit {w : World} {r c : Nat} {es : Array MapEntry} {k : Int} {i : Nat} {v : Value} (hb : w.heap[r]? = some (.map es c)) (hf : Instr.findNow (.int .u8) (.int .u8 k) es.toList 0 = some (some (i, v))) :
    Sem.run Try.prog (Instr.lookup 80 (.map (some r)) (.int .u8 k) true) w = .ok (.tuple #[v, .bool true]) w := by
  have hk : Try.prog.underlying 5 = some (.int .u8) := Try.underlying5
  have hc : (Instr.checkKey es.isEmpty 10000 5 (.int .u8 k)).run Try.prog w = .ok () w := MapKept.run_checkKey (k := .int .u8 k) hk (by simp [MapKept.IsKey]) _ 9999
  simp [Instr.lookup, run_underlying Try.underlying80, MapKept.run_getObj_map hb, hc, MapKept.run_findKey hk hf, Result.andThen]
theorem run_look_miss {w : World} {r c : Nat} {es : Array MapEntry} {k : Int} (hb : w.heap[r]? = some (.map es c)) (hf : Instr.findNow (.int .u8) (.int .u8 k) es.toList 0 = some none) :
    Sem.run Try.prog (Instr.lookup 80 (.map (some r)) (.int .u8 k) true) w = .ok (.tuple #[.nilFunc, .bool false]) w := by
  have hk : Try.prog.underlying 5 = some (.int .u8) := Try.underlying5
  have hc : (Instr.checkKey es.isEmpty 10000 5 (.int .u8 k)).run Try.prog w = .ok () w := MapKept.run_checkKey (k := .int .u8 k) hk (by simp [MapKept.IsKey]) _ 9999
  have hz : Sem.run Try.prog (zeroValue 78) w = .ok .nilFunc w := by kernel_rfl
  simp [Instr.lookup, run_underlying Try.underlying80, MapKept.run_getObj_map hb, hc, MapKept.run_findKey hk hf, Result.andThen, hz]
def sgE : Array MapEntry := #[⟨.int .u8 40, .func (.func 54) #[] #[], 0⟩, ⟨.int .u8 44, .func (.func 52) #[] #[], 1⟩, ⟨.int .u8 46, .func (.func 53) #[] #[], 2⟩, ⟨.int .u8 48, .func (.func 52) #[] #[], 3⟩, ⟨.int .u8 50, .func (.func 53) #[] #[], 4⟩, ⟨.int .u8 52, .func (.func 54) #[] #[], 5⟩]
def SgPost (w : World) (e : Ending) (w' : World) : Prop := e = .returned (.map (some w.heap.size)) ∧ w' = w.alloc (.map sgE 6)
set_option maxHeartbeats 8000000 in
theorem signs_any (w : World) :
    Calls Try.prog 41 #[] w (SgPost w) := by
  have hm : ∀ W : World, Sem.run Try.prog (Instr.makeMap 80 none) W = .ok (.map (some W.heap.size)) (W.alloc (.map #[] 0)) := fun W => run_makeMap 80 W
  have i0 := run_ins w #[] 0 40 (.func (.func 54) #[] #[]) rfl
  have i1 := run_ins w (c := 1) (k := 44) (val := (.func (.func 52) #[] #[])) (es := #[⟨.int .u8 40, .func (.func 54) #[] #[], 0⟩]) rfl
  have i2 := run_ins w (c := 2) (k := 46) (val := (.func (.func 53) #[] #[])) (es := #[⟨.int .u8 40, .func (.func 54) #[] #[], 0⟩, ⟨.int .u8 44, .func (.func 52) #[] #[], 1⟩]) rfl
  have i3 := run_ins w (c := 3) (k := 48) (val := (.func (.func 52) #[] #[])) (es := #[⟨.int .u8 40, .func (.func 54) #[] #[], 0⟩, ⟨.int .u8 44, .func (.func 52) #[] #[], 1⟩, ⟨.int .u8 46, .func (.func 53) #[] #[], 2⟩]) rfl
  have i4 := run_ins w (c := 4) (k := 50) (val := (.func (.func 53) #[] #[])) (es := #[⟨.int .u8 40, .func (.func 54) #[] #[], 0⟩, ⟨.int .u8 44, .func (.func 52) #[] #[], 1⟩, ⟨.int .u8 46, .func (.func 53) #[] #[], 2⟩, ⟨.int .u8 48, .func (.func 52) #[] #[], 3⟩]) rfl
  have i5 := run_ins w (c := 5) (k := 52) (val := (.func (.func 54) #[] #[])) (es := #[⟨.int .u8 40, .func (.func 54) #[] #[], 0⟩, ⟨.int .u8 44, .func (.func 52) #[] #[], 1⟩, ⟨.int .u8 46, .func (.func 53) #[] #[], 2⟩, ⟨.int .u8 48, .func (.func 52) #[] #[], 3⟩, ⟨.int .u8 50, .func (.func 53) #[] #[], 4⟩]) rfl
  simp only [List.push_toArray, List.nil_append, List.cons_append] at i0 i1 i2 i3 i4 i5
  go_enter Try.func41, Try.ntmps41
  go_wp2
  go_ret
  exact ⟨rfl, rfl⟩
theorem sg1_any (x : Int) (w : World) : Calls Try.prog 52 #[.int .i64 x] w fun e w' => e = .returned (.int .i64 (wrap64 (IntKind.i8.wrap x))) ∧ w' = w := by
  go_enter Try.func52, Try.ntmps52
  go_wp2
  go_ret
  exact ⟨rfl, rfl⟩
theorem sg2_any (x : Int) (w : World) : Calls Try.prog 53 #[.int .i64 x] w fun e w' => e = .returned (.int .i64 (wrap64 (IntKind.i16.wrap x))) ∧ w' = w := by
  go_enter Try.func53, Try.ntmps53
  go_wp2
  go_ret
  exact ⟨rfl, rfl⟩
theorem sg3_any (x : Int) (w : World) : Calls Try.prog 54 #[.int .i64 x] w fun e w' => e = .returned (.int .i64 (wrap64 (wrap32 x))) ∧ w' = w := by
  go_enter Try.func54, Try.ntmps54
  go_wp2
  go_ret
  exact ⟨rfl, rfl⟩
def ldN (b : List Int) : Nat → Int
  | 0 => 0
  | i + 1 => Go.bits .or .i64 (ldN b i) (wrap64 (wrap64 (rd b (i : Int)) * 2 ^ (8 * i)))
def sgn (op n : Int) : Int := if op = 40 ∨ op = 52 then wrap64 (wrap32 n) else if op = 44 ∨ op = 48 then wrap64 (IntKind.i8.wrap n) else if op = 46 ∨ op = 50 then wrap64 (IntKind.i16.wrap n) else n
def memLoadF (k : Nat) (h : Bool) (p m : Int) (l : List S40) (op base off : Int) : Option (Int × Int × Int) :=
  (mem_asked.f k h p m l op base off false).bind fun t => if t.2.2.2 = 0 then ((mem_within.f h p m l t.2.2.1 t.1).bind fun u => if u = true then ((mem_some.f k h p m l t.2.2.1 t.1).bind fun b => if b.length ≤ 8 then some (sgn op (ldN b b.length), 0, 0) else none) else some (0, 4, 0)) else some (0, 0, t.2.2.2)
theorem blk4 {W : World} {b : Nat} {v0 v1 v2 v3 : Value} {t : TypeId} (h : W.heap[b]? = some (.cells #[v0, v1, v2, v3] t (0, 0))) : W.cell? ⟨b, 0, none⟩ = some v0 ∧ W.cell? ⟨b, 1, none⟩ = some v1 ∧ W.cell? ⟨b, 2, none⟩ = some v2 ∧ W.cell? ⟨b, 3, none⟩ = some v3 :=
  ⟨(blk_cell h 0).trans rfl, (blk_cell h 1).trans rfl, (blk_cell h 2).trans rfl, (blk_cell h 3).trans rfl⟩
set_option maxHeartbeats 8000000 in
set_option maxRecDepth 100000 in
theorem memLoad_calls (k : Nat) (h : Bool) (p m : Int) (A0 : Option Addr) (c0 : Nat) (l : List S40) (op base off r1 r2 r3 : Int) (w : World) (hr0 : Kd.C k40 w A0 l.length l) (hc0 : l.length ≤ c0) (hf : memLoadF k h p m l op base off = some (r1, r2, r3)) :
    Calls Try.prog 20 #[.agg #[.bool h, .int .i64 p, .int .i64 m, .slice A0 l.length c0], .int .u8 op, .int .i64 base, .int .i64 off] w fun e w' => e = .returned (.tuple #[.int .i64 r1, .int .u8 r2, .int .i64 r3]) ∧ Below w.heap.size w w' := by
  unfold memLoadF at hf
  obtain ⟨⟨t0, t1, t2, t3⟩, h1, h2⟩ := Option.bind_eq_some_iff.mp hf
  clear hf
  dsimp only at h2
  have hbx : Below w.heap.size w (w.alloc (.cells #[.bool h, .int .i64 p, .int .i64 m, .slice A0 l.length c0] 26)) := (Below.refl _ w).alloc (Nat.le_refl _) _
  have hbk : (w.alloc (.cells #[.bool h, .int .i64 p, .int .i64 m, .slice A0 l.length c0] 26)).heap[w.heap.size]? = some (.cells #[.bool h, .int .i64 p, .int .i64 m, .slice A0 l.length c0] 26 (0, 0)) := heap_alloc_new _ _
  go_enter Try.func20, Try.ntmps20
  go_upto_region 1 with (fail)
  have hsz : w.heap.size < (w.alloc (.cells #[.bool h, .int .i64 p, .int .i64 m, .slice A0 l.length c0] 26)).heap.size := by simp
  generalize w.alloc (.cells #[.bool h, .int .i64 p, .int .i64 m, .slice A0 l.length c0] 26) = w1 at hbx hbk hsz ⊢
  have HR := Aside0.mk (Kd.C_below hr0 hbx)
  have HC := Aside0.mk hc0
  have HBX := Aside0.mk hbx
  have HBK := Aside0.mk hbk
  have HSZ := Aside0.mk hsz
  have H1 := Aside0.mk h1
  have HB := Aside0.mk (Below.refl w1.heap.size w1)
  have fin : ∀ W : World, Below w1.heap.size w1 W → Below w.heap.size w W := fun W h => HBX.out.trans (h.mono (Nat.le_of_lt HSZ.out))
  obtain ⟨g, hg⟩ : ∃ g, w.heap.size = g := ⟨_, rfl⟩
  obtain ⟨k0, k1, k2, k3⟩ := blk4 hbk
  rw [hg] at k0 k1 k2 k3 HBK HSZ ⊢
  have HG := Aside0.mk hg
  clear hr0 hc0 hbx hbk hsz h1 hg
  by_cases c0 : t3 = 0
  · rw [if_pos c0] at h2
    subst c0
    obtain ⟨u, h3, h4⟩ := Option.bind_eq_some_iff.mp h2
    clear h2
    have H3 := Aside0.mk h3
    clear h3
    cases u with
    | false =>
      rw [if_neg (by simp)] at h4
      simp only [Option.some.injEq, Prod.mk.injEq] at h4
      obtain ⟨rfl, rfl, rfl⟩ := h4
      go_upto_region 4 with (first | (go_at_call 38; refine (mem_asked.calls _ _ _ _ _ _ _ _ _ _ _ _ _ _ _ _ (Kd.C_below HR.out HB.out) HC.out H1.out).mono ?_; rintro e w8 ⟨rfl, hb⟩; have HB2 := Aside0.mk hb; clear HB hb))
      obtain ⟨k0, k1, k2, k3⟩ := blk4 ((HB2.out.block g HSZ.out).trans HBK.out)
      go_wp2_with (first | (go_at_call 31; refine (mem_within.calls _ _ _ _ _ _ _ _ _ _ (Kd.C_below HR.out HB2.out) HC.out H3.out).mono ?_; rintro e w9 ⟨rfl, hb⟩; have HB3 := Aside0.mk hb; clear hb))
      go_ret3
      exact ⟨rfl, by rw [HG.out]; rw [← HG.out]; exact fin _ (HB2.out.trans (HB3.out.mono HB2.out.size))⟩
    | true =>
      rw [if_pos rfl] at h4
      obtain ⟨b, h5, h6⟩ := Option.bind_eq_some_iff.mp h4
      clear h4
      have H5 := Aside0.mk h5
      clear h5
      by_cases hl8 : b.length ≤ 8
      · rw [if_pos hl8] at h6
        simp only [Option.some.injEq, Prod.mk.injEq] at h6
        obtain ⟨h6, rfl, rfl⟩ := h6
        have HV := Aside0.mk h6
        clear h6
        go_upto_region 4 with (first | (go_at_call 38; refine (mem_asked.calls _ _ _ _ _ _ _ _ _ _ _ _ _ _ _ _ (Kd.C_below HR.out HB.out) HC.out H1.out).mono ?_; rintro e w8 ⟨rfl, hb⟩; have HB2 := Aside0.mk hb; clear HB hb))
        obtain ⟨k0, k1, k2, k3⟩ := blk4 ((HB2.out.block g HSZ.out).trans HBK.out)
        go_upto_region 6 with (first | (go_at_call 31; refine (mem_within.calls _ _ _ _ _ _ _ _ _ _ (Kd.C_below HR.out HB2.out) HC.out H3.out).mono ?_; rintro e w9 ⟨rfl, hb⟩; have HB3 := Aside0.mk (HB2.out.trans (hb.mono HB2.out.size)); clear hb))
        obtain ⟨k0, k1, k2, k3⟩ := blk4 ((HB3.out.block g HSZ.out).trans HBK.out)
        go_wp2_with (first | (go_at_call 32; refine (mem_some.calls _ _ _ _ _ _ _ _ _ _ _ (Kd.C_below HR.out HB3.out) HC.out H5.out).mono ?_; rintro e w10 ⟨v10, rfl, ho, hb⟩; obtain ⟨Ab, cb, rfl⟩ := Kd.R_slice ho; have HO := Aside0.mk (Kd.R_reads' ho).2.2; have HB4 := Aside0.mk (HB3.out.trans (hb.mono HB3.out.size)); clear hb ho) | fail)
        go_loopg [8, 41] 9 (fun kq v8 v41 w' => ∃ (i : Nat), v8 = .int .i64 (ldN b i) ∧ v41 = .int .i64 (i : Int) ∧ Aside0 (i ≤ b.length ∧ b.length - i < kq) ∧ w' = w10)
        case atStart => exact ⟨0, rfl, rfl, ⟨by omega, by omega⟩, rfl⟩
        case round =>
          obtain ⟨i, rfl, rfl, HI, rfl⟩ := hrel
          cases gk with
          | zero => exact absurd HI.out (by omega)
          | succ kk =>
            have hi := HI.out.1
            by_cases c1 : i < b.length
            · have c1b : decide ((i : Int) < (b.length : Int)) = true := decide_eq_true (by omega)
              have p17 : 0 ≤ (i : Int) := by omega
              have q17 : (i : Int) < (b.length : Int) := by omega
              obtain ⟨ad, e17, hx⟩ := Kd.at_int HO.out (i : Int) p17 q17
              subst e17
              simp only [Int.toNat_natCast] at hx
              obtain ⟨xv, hxv⟩ : ∃ x, x = rd b (i : Int) := ⟨_, rfl⟩
              rw [← hxv] at hx
              have HXV := Aside0.mk hxv
              have b8 : 0 ≤ 8 * (i : Int) := by omega
              have b8' : 8 * (i : Int) < 64 := by omega
              clear hxv
              go_wp2
              go_roundg kk
              case measure => omega
              case rel => exact ⟨i + 1, by rw [HXV.out]; rfl, by simp, ⟨by omega, by have := HI.out.2; omega⟩, rfl⟩
            · have c1b : decide ((i : Int) < (b.length : Int)) = false := decide_eq_false (by omega)
              obtain rfl : i = b.length := by omega
              have hmp : (wr.alloc (.map sgE 6)).heap[wr.heap.size]? = some (.map sgE 6) := heap_alloc_new _ _
              have HB5 := Aside0.mk (HB4.out.alloc HB4.out.size (.map sgE 6))
              obtain ⟨N, hN⟩ : ∃ N, ldN b b.length = N := ⟨_, rfl⟩
              rw [hN]
              have HN := Aside0.mk hN
              clear hN
              go_wp2_with (fail)
              refine (signs_any _).mono ?_
              rintro e w11 ⟨rfl, rfl⟩
              by_cases o1 : op = 40 ∨ op = 52
              · have lk : ∀ j : Nat, Instr.findNow (.int .u8) (.int .u8 op) sgE.toList 0 = some (some ((if op = 40 then 0 else 5), .func (.func 54) #[] #[])) := fun _ => by rcases o1 with rfl | rfl <;> rfl
                have hlk := run_look_hit hmp (lk 0)
                rw [sgn, if_pos o1] at HV
                clear o1 lk
                go_wp2_with (first | (go_at_call 54; refine (sg3_any _ _).mono ?_; rintro e w12 ⟨rfl, rfl⟩) | fail)
                go_ret3
                exact ⟨by rw [← HV.out, HN.out]; rfl, fin _ HB5.out⟩
              · by_cases o2 : op = 44 ∨ op = 48
                · have lk : ∀ j : Nat, Instr.findNow (.int .u8) (.int .u8 op) sgE.toList 0 = some (some ((if op = 44 then 1 else 3), .func (.func 52) #[] #[])) := fun _ => by rcases o2 with rfl | rfl <;> rfl
                  have hlk := run_look_hit hmp (lk 0)
                  rw [sgn, if_neg o1, if_pos o2] at HV
                  clear o1 o2 lk
                  go_wp2_with (first | (go_at_call 52; refine (sg1_any _ _).mono ?_; rintro e w12 ⟨rfl, rfl⟩) | fail)
                  go_ret3
                  exact ⟨by rw [← HV.out, HN.out]; rfl, fin _ HB5.out⟩
                · by_cases o3 : op = 46 ∨ op = 50
                  · have lk : ∀ j : Nat, Instr.findNow (.int .u8) (.int .u8 op) sgE.toList 0 = some (some ((if op = 46 then 2 else 4), .func (.func 53) #[] #[])) := fun _ => by rcases o3 with rfl | rfl <;> rfl
                    have hlk := run_look_hit hmp (lk 0)
                    rw [sgn, if_neg o1, if_neg o2, if_pos o3] at HV
                    clear o1 o2 o3 lk
                    go_wp2_with (first | (go_at_call 53; refine (sg2_any _ _).mono ?_; rintro e w12 ⟨rfl, rfl⟩) | fail)
                    go_ret3
                    exact ⟨by rw [← HV.out, HN.out]; rfl, fin _ HB5.out⟩
                  · have lk : Instr.findNow (.int .u8) (.int .u8 op) sgE.toList 0 = some none := by
                      simp only [not_or] at o1 o2 o3
                      have b1 : (op == 40) = false := beq_eq_false_iff_ne.mpr o1.1
                      have b2 : (op == 52) = false := beq_eq_false_iff_ne.mpr o1.2
                      have b3 : (op == 44) = false := beq_eq_false_iff_ne.mpr o2.1
                      have b4 : (op == 48) = false := beq_eq_false_iff_ne.mpr o2.2
                      have b5 : (op == 46) = false := beq_eq_false_iff_ne.mpr o3.1
                      have b6 : (op == 50) = false := beq_eq_false_iff_ne.mpr o3.2
                      clear o1 o2 o3
                      simp only [sgE, Instr.findNow, Instr.sameNow, if_true, b1, b2, b3, b4, b5, b6]
                    have hlk := run_look_miss hmp lk
                    rw [sgn, if_neg o1, if_neg o2, if_neg o3] at HV
                    clear o1 o2 o3 lk
                    go_wp2
                    go_ret3
                    exact ⟨by rw [← HV.out, HN.out]; rfl, fin _ HB5.out⟩
      · rw [if_neg hl8] at h6; cases h6
  · rw [if_neg c0] at h2
    simp only [Option.some.injEq, Prod.mk.injEq] at h2
    obtain ⟨rfl, rfl, rfl⟩ := h2
    have cb : (t3 == 0) = false := beq_eq_false_iff_ne.mpr c0
    have cb1 : (t3 != 0) = true := bne_iff_ne.mpr c0
    clear c0
    go_wp2_with (first | (go_at_call 38; refine (mem_asked.calls _ _ _ _ _ _ _ _ _ _ _ _ _ _ _ _ (Kd.C_below HR.out HB.out) HC.out H1.out).mono ?_; rintro e w8 ⟨rfl, hb⟩; have HB2 := Aside0.mk hb; clear HB hb))
    go_ret3
    exact ⟨rfl, fin _ HB2.out⟩
end Go.Proofs.Ytidojlacnamabaa
