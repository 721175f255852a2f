/-
  The walks of package crc's table and of its iterator over half bytes. No statement is proved here.
-/
import Derived.Test.YthnnikhkmpafjaaProg
import Derived.Test.YthnnikhkmpafjaaKit
import Derived.Test.YthnnikhkmpafjaaCrcPure
namespace Go.Proofs.Ythnnikhkmpafjaa
open Go.RowKit Go.Shelf
def halfArr (k : Nat) : Array Value := ((List.range k).map (fun i : Nat => Value.int .u32 (crcIter 4 (i : Int))) ++ List.replicate (16 - k) (Value.int .u32 0)).toArray
theorem halfArr_size (k : Nat) (h : k ≤ 16) : (halfArr k).size = 16 := by simp [halfArr]; omega
theorem halfArr_set (k : Nat) (h : k < 16) : (halfArr k).setIfInBounds k (.int .u32 (crcIter 4 k)) = halfArr (k+1) := by
  unfold halfArr
  rw [List.setIfInBounds_toArray]
  congr 1
  rw [List.set_append_right _ _ (by simp)]
  rw [show 16 - k = (16 - (k+1)) + 1 by omega, List.replicate_succ]
  simp [List.range_succ]
set_option maxHeartbeats 400000 in
theorem half_any (w : World) : Calls Try.prog 16 #[] w fun e w' => e = .returned (.agg (halfArr 16)) ∧ w' = w.alloc (.cells (halfArr 16) 42) := by
  have hs : ∀ k, k ≤ 16 → (halfArr k).size = 16 := halfArr_size
  go_enter Try.func16, Try.ntmps16
  go_wp2
  go_loopw [3] (fun i wr => ∃ k : Nat, k ≤ 16 ∧ i = .int .i64 k ∧ wr = w.alloc (.cells (halfArr k) 42)) (fun i _ => 16 - (intOf i).toNat)
  case atStart => exact ⟨0, by omega, rfl, rfl⟩
  case round =>
    obtain ⟨k, hk, rfl, rfl⟩ := hrel
    have hs1 := hs k hk
    clear hs
    by_cases hlt : k < 16
    · go_wp2
      go_loop [2, 8] (fun x j => ∃ m : Nat, m ≤ 4 ∧ j = .int .i64 m ∧ x = .int .u32 (crcIter m k)) (fun _ j => 4 - (intOf j).toNat)
      case atStart => exact ⟨0, by omega, rfl, by simp [crcIter]⟩
      case round =>
        obtain ⟨m, hm, rfl, rfl⟩ := hrel
        by_cases hlt2 : m < 4
        · go_wp2
          go_round
          case rel => exact ⟨m+1, by omega, by go_num, rfl⟩
          case measure => simp [intOf]; omega
        · obtain rfl : m = 4 := by omega
          go_wp2
          go_roundw
          case rel => exact ⟨k+1, by omega, by go_num, by rw [halfArr_set _ hlt]⟩
          case measure => simp [intOf]; omega
    · obtain rfl : k = 16 := by omega
      go_wp2
      refine bodyPost_ret (results_cell_row (P := Try.prog) rfl _ _ _ 42 (halfArr 16) (0,0) _ rfl (heap_alloc_new w _) Try.underlying42 rfl (by rw [hs1]; kernel_rfl)) rfl ⟨rfl, rfl⟩
attribute [local go_sem] Oper.semAt_some
set_option maxHeartbeats 1000000 in
theorem halves1_in (F : Fence) (n : Nat) (h22 : F.fn 22) (hro : F.round = none) (hn : 1 ≤ n) (l Bs n₀ : Nat) (a : Option Addr) (cap : Nat) (bss : List (List UInt8)) (J Jx : List Int → World → Prop)
    (hY : ∀ pre x W, J pre W → pre.length < (nibs bss.flatten).length → YieldAt F (n - 1) Try.prog l #[.int .u32 x] W fun e W' =>
      (e = .returned (.bool true) ∧ J (pre ++ [x]) W' ∧ Below n₀ W W') ∨ (e = .returned (.bool false) ∧ Jx (pre ++ [x]) W'))
    (W : World) (hBs : W.cell? ⟨Bs, 0, none⟩ = some (.slice a bss.length cap)) (hP : Parts n₀ W a bss) (h0 : J [] W) :
    CallsIn F n Try.prog 22 #[.func (.yield l) #[] #[], .pointer (some ⟨Bs, 0, none⟩)] W fun e W' => (∃ v, e = .returned v) ∧
      ((∃ ys, ys = nibs bss.flatten ∧ J ys W') ∨ (∃ pre, True ∧ Jx pre W')) := by
  refine callsIn_of_wp Try.func22 rfl h22 ?_ hro
  simp only [Try.ntmps22, List.size_toArray, List.length_cons, List.length_nil, Nat.reduceAdd, Nat.reduceSub, Array.replicate_succ, Array.replicate_zero, List.push_toArray, List.append_toArray, List.nil_append, List.cons_append]
  have hbl := hP.1
  gi_wp2
  gi_loopw [9] (fun i wr => ∃ k : Nat, k ≤ bss.length ∧ i = .int .i64 k ∧ J (nibs (bss.take k).flatten) wr ∧ Below n₀ W wr) (fun i _ => bss.length - (intOf i).toNat)
  case atStart => exact ⟨0, Nat.zero_le _, rfl, h0, Below.refl _ _⟩
  case round =>
    obtain ⟨k, hk, rfl, hJs, hnx⟩ := hrel
    obtain ⟨wo, rfl⟩ : ∃ wo : World, wo = wr := ⟨_, rfl⟩
    by_cases hlt : k < bss.length
    · obtain ⟨_, hP0 | ⟨b, off, rfl, hb, hcs⟩⟩ := hP.below hnx
      · subst hP0; simp at hlt
      obtain ⟨v, hc, a2, cap2, rfl, hl2, hB2⟩ := hcs k hlt
      gi_wp2
      gi_loopw [15] (fun i wr2 => ∃ j : Nat, j ≤ bss[k].length ∧ i = .int .i64 j ∧ J (nibs ((bss.take k).flatten ++ bss[k].take j)) wr2 ∧ Below n₀ wo wr2) (fun i _ => bss[k].length - (intOf i).toNat)
      case atStart => exact ⟨0, Nat.zero_le _, rfl, by simpa using hJs, Below.refl _ _⟩
      case round =>
        obtain ⟨j, hj, rfl, hJs2, hnx2⟩ := hrel
        by_cases hlt2 : j < bss[k].length
        · obtain hB0 | ⟨b2, off2, rfl, hb2, hcs2⟩ := hB2
          · rw [hB0] at hlt2; simp at hlt2
          have hc2 := (hnx2.cell (p := ⟨b2, off2 + j, none⟩) hb2).trans (hcs2 j hlt2)
          have hlen : (nibs ((List.take k bss).flatten ++ List.take j bss[k])).length + 2 ≤ (nibs bss.flatten).length := by
            rw [nibs_length, nibs_length, flatten_split bss k hlt]
            simp only [List.length_append, List.length_take]
            omega
          have hsn : nibs ((List.take k bss).flatten ++ List.take (j+1) bss[k]) = nibs ((List.take k bss).flatten ++ List.take j bss[k]) ++ [Go.bits .and .u8 (bss[k][j].toNat : Int) 15 % 4294967296] ++ [(bss[k][j].toNat : Int) / 16 % 4294967296] := by
            rw [List.take_succ_eq_append_getElem hlt2, ← List.append_assoc, nibs_append _ [_]]
            simp [nibs]
          have HS := Lib.hid hsn
          clear hsn
          have HL := Lib.hid hlen
          clear hlen
          obtain ⟨fn, tmps, assign, body, hy, hR⟩ := hY _ (Go.bits .and .u8 (bss[k][j].toNat : Int) 15 % 4294967296) wr hJs2 (by have := HL.out; omega)
          gi_wp2
          refine hR.mono ?_
          rintro e W3 (⟨rfl, hJ3, hk3⟩ | ⟨rfl, hJx3⟩)
          · obtain ⟨fn', tmps', assign', body', hy', hR'⟩ := hY _ ((bss[k][j].toNat : Int) / 16 % 4294967296) W3 hJ3 (by have := HL.out; simp only [List.length_append, List.length_singleton]; omega)
            gi_wp2
            refine hR'.mono ?_
            rintro e W4 (⟨rfl, hJ4, hk4⟩ | ⟨rfl, hJx4⟩)
            · gi_wp2
              go_roundw
              case rel => exact ⟨j + 1, by omega, by simp, by rw [HS.out]; exact hJ4, hnx2.trans (hk3.trans hk4)⟩
              case measure => simp [intOf]; omega
            · gi_wp2
              refine bodyPost_ret (results_none rfl _ _ _) rfl ?_
              exact ⟨⟨_, rfl⟩, .inr ⟨_, trivial, hJx4⟩⟩
          · gi_wp2
            all_goals
              refine ⟨fun _ h => (by cases h), ?_⟩
              gi_wp2
              refine bodyPost_ret (results_none rfl _ _ _) rfl ?_
              exact ⟨⟨_, rfl⟩, .inr ⟨_, trivial, hJx3⟩⟩
        · have hjl : j = bss[k].length := by omega
          have HJ := Lib.hid hjl
          clear hjl
          gi_wp2
          go_roundw
          case rel => exact ⟨k + 1, by omega, by simp, by rw [List.take_succ_eq_append_getElem hlt, List.flatten_append]; simpa [HJ.out] using hJs2, hnx.trans hnx2⟩
          case measure => simp [intOf]; omega
    · obtain rfl : k = bss.length := by omega
      gi_wp2
      go_end0
      exact ⟨⟨_, rfl⟩, .inl ⟨_, rfl, by simpa using hJs⟩⟩

theorem halves_any (a : Option Addr) (len cap : Nat) (w : World) : Calls Try.prog 17 #[.slice a len cap] w fun e w' => e = .returned (.func (.func 22) #[] #[.pointer (some ⟨w.heap.size, 0, none⟩)]) ∧ w' = w.alloc (.cells #[.slice a len cap] 41) := by
  go_enter Try.func17, Try.ntmps17
  go_wp2
  go_ret
  exact ⟨rfl, rfl⟩
theorem halves_stops (F : Fence) (n : Nat) (h22 : F.fn 22) (hro : F.round = none) (hn : 1 ≤ n) (Bs n₀ : Nat) (a : Option Addr) (cap : Nat) (bss : List (List UInt8)) (w : World) (hBs : Bs < w.heap.size) (hn₀ : n₀ ≤ w.heap.size)
    (hc : w.cell? ⟨Bs, 0, none⟩ = some (.slice a bss.length cap)) (hP : Parts n₀ w a bss) :
    SeqStopsK F n Try.prog 22 #[.pointer (some ⟨Bs, 0, none⟩)] (fun x : Int => #[Value.int .u32 x]) (Below n₀) (fun ys => ys = nibs bss.flatten) (fun _ => True) (nibs bss.flatten).length w := fun l J Jx W hW _ _ hY h0 =>
  halves1_in F n h22 hro hn l Bs n₀ a cap bss J Jx hY W ((hW.cell (p := ⟨Bs, 0, none⟩) hBs).trans hc) (hP.below (hW.mono hn₀)) h0

theorem halfArr_get (k : Nat) (h : k < 16) : (halfArr 16)[k]? = some (.int .u32 (crcIter 4 (k : Int))) := by
  simp [halfArr, h]
theorem halfArr_one : (halfArr 16).all (·.oneCell') = true := by
  simp [halfArr, Value.oneCell']
set_option maxHeartbeats 1000000 in
theorem sum_any (a : Option Addr) (cap : Nat) (bss : List (List UInt8)) (w : World) (hP : Parts w.heap.size w a bss) :
    Calls Try.prog 9 #[.slice a bss.length cap] w fun e w' => e = .returned (.int .u32 (U (cSum bss.flatten))) ∧ Below w.heap.size w w' := by
  have hsz := halfArr_size 16 (Nat.le_refl _)
  have hst := run_storeCells_mid (P := Try.prog) w (.cells (halfArr 16) 42) (.cells #[Value.int IntKind.u32 0] 23) #[Value.int IntKind.u32 0, Value.int IntKind.u32 0, Value.int IntKind.u32 0, Value.int IntKind.u32 0,
          Value.int IntKind.u32 0, Value.int IntKind.u32 0, Value.int IntKind.u32 0, Value.int IntKind.u32 0,
          Value.int IntKind.u32 0, Value.int IntKind.u32 0, Value.int IntKind.u32 0, Value.int IntKind.u32 0,
          Value.int IntKind.u32 0, Value.int IntKind.u32 0, Value.int IntKind.u32 0, Value.int IntKind.u32 0] (halfArr 16) 42 (by rw [hsz]; rfl) halfArr_one
  refine (callsIn_wide (n := 3)).1 ?_
  refine callsIn_of_wp_marks Try.func9 rfl trivial ?_ rfl
  simp only [Try.ntmps9, List.size_toArray, List.length_cons, List.length_nil, Nat.reduceAdd, Nat.reduceSub, Array.replicate_succ, Array.replicate_zero, List.push_toArray, List.append_toArray, List.nil_append, List.cons_append]
  gi_wp2_with (first | (refine ⟨trivial, ?_⟩; gi_at_call 17; refine (callsIn_wide.2 (halves_any _ _ _ _)).mono ?_; rintro e w' ⟨rfl, rfl⟩) | (refine ⟨trivial, ?_⟩; gi_at_call 16; refine (callsIn_wide.2 (half_any _)).mono ?_; rintro e w' ⟨rfl, rfl⟩))
  have bL := Blk.new (w.alloc (.cells (halfArr 16) 42)) (halfArr 16) 42
  have bW := Blk.new ((w.alloc (.cells (halfArr 16) 42)).alloc (.cells (halfArr 16) 42)) #[Value.int .u32 4294967295] 23
  have bN := Blk.new (((w.alloc (.cells (halfArr 16) 42)).alloc (.cells (halfArr 16) 42)).alloc (.cells #[Value.int .u32 4294967295] 23)) #[Value.slice a bss.length cap] 41
  simp only [World.size_alloc] at bL bW bN
  have hB0 : Below w.heap.size w ((((w.alloc (.cells (halfArr 16) 42)).alloc (.cells (halfArr 16) 42)).alloc (.cells #[Value.int .u32 4294967295] 23)).alloc (.cells #[Value.slice a bss.length cap] 41)) :=
    ((((Below.refl _ w).alloc (Nat.le_refl _) _).alloc (by simp) _).alloc (by rw [World.size_alloc, World.size_alloc]; omega) _).alloc (by rw [World.size_alloc, World.size_alloc, World.size_alloc]; omega) _
  refine wpIn_rangeFunc_ownG rfl (by omega) (gf := 22) (lb := #[.pointer (some ⟨w.heap.size + 1 + 1 + 1, 0, none⟩)]) rfl trivial (enters_of Try.func22 (by kernel_rfl) rfl)
    (halves_stops Fence.wide (3 - 1) trivial rfl (by omega) (w.heap.size + 1 + 1 + 1) w.heap.size a cap bss _ (by simp) (by simp; omega) (bN.cell 0) (hP.below hB0)) belowK_t (belowK_b (by simp; omega)) (Below.refl _ _) (fun _ => rfl)
    (fun pre W => (Blk W (w.heap.size + 1) (halfArr 16) 42 ∧ Blk W (w.heap.size + 1 + 1) #[Value.int .u32 (crcFold pre)] 23) ∧ Below w.heap.size w W)
    (fun _ _ _ => False)
    (OwnFrom.and (Own.from (fun s A B row hs hg hr => ⟨Blk.own (w.heap.size + 1) 42 (fun _ : List Int => halfArr 16) s A B row hs.1 hg hr, Blk.own (w.heap.size + 1 + 1) 23 (fun pre : List Int => #[Value.int .u32 (crcFold pre)]) s A B row hs.2 hg hr⟩) _) (ownFrom_below (Nat.le_refl _) (by simp; omega)))
    (fun _ _ _ _ _ hs _ _ => hs)
    ⟨⟨(bL.alloc _).alloc _, bW.alloc _⟩, hB0⟩
    (fun x => { tmps := #[Value.slice a bss.length cap, undef, Value.int IntKind.u32 0,
        Value.pointer (some { block := w.heap.size + 1, off := 0 }),
        Value.pointer (some { block := w.heap.size + 1 + 1, off := 0 }), .int .u32 x, Value.agg (halfArr 16),
        Value.slice a bss.length cap,
        Value.func (Fn.func 22) #[] #[Value.pointer (some { block := w.heap.size + 1 + 1 + 1, off := 0 })], .int .u32 x,
        undef, undef, undef, undef, undef, undef, undef, undef, undef, undef, undef], defers := [] }) ?assign ?body ?done ?stop
  case assign =>
    intro l x W K hK
    gi_wp2
    exact hK
  case body =>
    clear hst bL bW bN hB0 hsz hP
    rintro l pre x W ⟨⟨hL, hW⟩, hB⟩ _
    obtain ⟨hx0, hx1⟩ := crcFold_bd pre
    obtain ⟨m, hm⟩ := Int.eq_ofNat_of_zero_le (and15_bd (Go.bits .xor .u32 (crcFold pre) x)).1
    have hm16 : m < 16 := by have := (and15_bd (Go.bits .xor .u32 (crcFold pre) x)).2; omega
    have hcW := hW.cell 0
    have hfW := hW.frozen 0
    have hcL := (hL.cell m).trans (halfArr_get m hm16)
    have hmx : Try.prog.follows .mixedOrders = true := by kernel_rfl
    simp only [List.getElem?_toArray, List.getElem?_cons_zero] at hcW
    gi_wp2
    gi_region_o
    all_goals gi_wp2
    all_goals (try go_bits)
    all_goals
      have hS : crcFold (pre ++ [x]) = Go.bits .xor .u32 (crcFold pre / 16) (crcIter 4 (m : Int)) := by rw [crcFold_snoc]; unfold crcNib; rw [hm]; simp
      refine ⟨((KeepsOthers.setCell _ _ _).trans (KeepsOthers.drew _)).from _, ((Below.refl w.heap.size W).setCell (p := ⟨w.heap.size + 1 + 1, 0, none⟩) (by simp; omega) _).drew, ⟨(hL.other _ _ (by simp)).drew, ?_⟩, (hB.setCell (p := ⟨w.heap.size + 1 + 1, 0, none⟩) (by simp; omega) _).drew⟩
      rw [hS]
      exact (hW.set 0 _).drew
  case done =>
    clear hst bL bW bN hB0 hsz hP
    rintro D ys W hD rfl ⟨⟨_, hW⟩, hB⟩ hK
    have hcW := hW.cell 0
    simp only [List.getElem?_toArray, List.getElem?_cons_zero] at hcW
    gi_wp2
    refine ⟨by simp, .inl ⟨_, _, rfl, run_takeDeferred hK, ?_⟩⟩
    refine ⟨_, results_tmp rfl _ _ _, ?_, ?_⟩
    · show Ending.returned (.int .u32 (Go.bits .xor .u32 IntKind.u32.max (crcFold (nibs bss.flatten)))) = _
      rw [crcFold_eq, U_not]; rfl
    · exact hB.trans (belowK_b (w := w) (Nat.le_refl _) W D _ _ (by simp at hD; omega) hK rfl rfl)
  case stop =>
    rintro D c pre W _ _ h _
    exact h.elim
end Go.Proofs.Ythnnikhkmpafjaa
