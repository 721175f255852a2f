/-
  leb.put: its walk, and its contract in the printed texts' words. No statement is proved here.
-/
import Derived.Test.YtgnnalempnbjnaaLebS
import Derived.Test.YtgnnalempnbjnaaLebG
import Derived.Maps.AppendAt
namespace Go.Proofs.Ytgnnalempnbjnaa
open Go.RowKit Go.Shelf Go.Proofs.YtgnnalempnbjnaaW.PrintWords
theorem sevens_any (x : Int) (b : Bool) (w : World) : Calls Try.prog 26 #[.int .i64 x, .bool b] w fun e w' => e = .returned (.func (.func 30) #[] #[.pointer (some ⟨w.heap.size, 0, none⟩), .pointer (some ⟨w.heap.size + 1, 0, none⟩)]) ∧ w' = (w.alloc (.cells #[.int .i64 x] 3)).alloc (.cells #[.bool b] 4) := by
  go_enter Try.func26, Try.ntmps26
  go_wp2
  go_ret
  exact ⟨rfl, rfl⟩
theorem clip_any (g n c : Nat) (hn : n ≤ c) (w : World) : Calls Try.prog 27 #[.slice (some ⟨g, 0, none⟩) n c] w fun e w' => e = .returned (.slice (some ⟨g, 0, none⟩) n n) ∧ w' = w := by
  go_enter Try.func27, Try.ntmps27
  go_wp2
  go_ret
  exact ⟨rfl, rfl⟩
theorem clip_nil (w : World) : Calls Try.prog 27 #[.slice none 0 0] w fun e w' => e = .returned (.slice none 0 0) ∧ w' = w := by
  go_enter Try.func27, Try.ntmps27
  go_wp2
  go_ret
  exact ⟨rfl, rfl⟩

def lebByte (x : Int × Bool) : Int := if x.2 = true then Go.bits .or .u8 x.1 128 else x.1
theorem q_clip {W : World} {base g n : Nat} {ok : Nat → Prop} {xs : List Int} {cap : Nat} {cur : Array Value} (hok : ok g) (hn : xs.length = n) (hg : base ≤ g) (hgb : W.heap[g]? = some (.cells cur 5 (0, 0))) (hnc : n ≤ cap) (hcm : cap ≤ maxLen) (hcs : cur.size = cap * 1) (ht : cur.toList.take (n * 1) = xs.map (Value.int .u8)) :
    Kd.Q (Kd.int .u8) 5 W base ok (.slice (some ⟨g, 0, none⟩) n n) xs := by
  subst hn
  refine ⟨fun k hk => by simp [Value.ownBlock] at hk; exact hk ▸ hok, xs.map (Value.int .u8), ⟨by simp [Kd.int, Kd.scalar], .inr ⟨g, 0, xs.length, cur, by simp [Kd.int, Kd.scalar], hg, hgb, Nat.le_refl _, by omega, by simp [Kd.int, Kd.scalar]; omega, by simpa [Kd.int, Kd.scalar] using ht⟩⟩, ?_⟩
  refine ⟨by simp [Kd.int, Kd.scalar], fun j p hj => ?_⟩
  have hjl : j < xs.length := (List.getElem?_eq_some_iff.1 hj).1
  have hp : xs[j] = p := by rw [List.getElem?_eq_getElem hjl] at hj; exact Option.some.inj hj
  show ((xs.map (Value.int .u8)).drop (j * 1)).take 1 = [.int .u8 p]
  rw [Nat.mul_one, List.drop_eq_getElem_cons (by simpa using hjl)]
  simp [hp]
attribute [local go_sem] Oper.semAt_some
set_option maxHeartbeats 2000000 in
theorem put_any (x : Int) (b : Bool) (L : List (Int × Bool)) (hL : svL b 11 x = some L) (hlen : L.length ≤ 11) (w : World) :
    Calls Try.prog 19 #[.int .i64 x, .bool b] w fun e w' => ∃ v0, e = .returned v0 ∧ Kd.Q (Kd.int .u8) 5 w' w.heap.size (fun _ => True) v0 (L.map lebByte) ∧ Below w.heap.size w w' := by
  obtain ⟨i0, hi, hz0, hz1, hz2⟩ := info_parts (show (Try.prog.info? 5).map (fun i => (i.zero, i.size, i.bytes)) = some (some (.int .u8 0), 1, 1) by kernel_rfl)
  refine (callsIn_wide (n := 3)).1 ?_
  refine callsIn_of_wp_marks Try.func19 rfl trivial ?_ rfl
  simp only [Try.ntmps19, List.size_toArray, List.length_cons, List.length_nil, Nat.reduceAdd, Nat.reduceSub, Array.replicate_succ, Array.replicate_zero, List.push_toArray, List.append_toArray, List.nil_append, List.cons_append]
  gi_wp2_with (refine ⟨trivial, ?_⟩; gi_at_call 26; refine (callsIn_wide.2 (sevens_any _ _ _)).mono ?_; rintro e w' ⟨rfl, rfl⟩)
  obtain ⟨W0, hW0⟩ : ∃ W0, ((w.alloc (.cells #[.slice none 0 0] 22)).alloc (.cells #[.int .i64 x] 3)).alloc (.cells #[.bool b] 4) = W0 := ⟨_, rfl⟩
  have bO : Boxed W0 w.heap.size 22 (.slice none 0 0) := by rw [← hW0]; exact ((Boxed.new w 22 _).alloc _).alloc _
  have bN : Blk W0 (w.heap.size + 1) #[.int .i64 x] 3 := by
    rw [← hW0]; have := Blk.new (w.alloc (.cells #[.slice none 0 0] 22)) #[.int .i64 x] 3
    rw [World.size_alloc] at this; exact this.alloc _
  have bG : Blk W0 (w.heap.size + 2) #[.bool b] 4 := by
    rw [← hW0]; have := Blk.new ((w.alloc (.cells #[.slice none 0 0] 22)).alloc (.cells #[.int .i64 x] 3)) #[.bool b] 4
    rw [World.size_alloc, World.size_alloc] at this; exact this
  have hB0 : Below w.heap.size w W0 := by rw [← hW0]; exact ((((Below.refl _ w).alloc (Nat.le_refl _) _).alloc (by simp) _).alloc (by simp; omega) _)
  have hs0 : W0.heap.size = w.heap.size + 3 := by rw [← hW0]; simp
  rw [hW0]
  clear hW0
  have hseq : SeqState Fence.wide (3 - 1) Try.prog 30 #[.pointer (some ⟨w.heap.size + 1, 0, none⟩), .pointer (some ⟨w.heap.size + 1 + 1, 0, none⟩)] (fun y : Int × Bool => #[Value.int .u8 y.1, Value.bool y.2]) (fun c => c = w.heap.size + 1)
      (fun W W' => W'.heap[w.heap.size + 1]? = W.heap[w.heap.size + 1]? ∧ W'.heap[w.heap.size + 2]? = W.heap[w.heap.size + 2]?) (fun ys => ys = L) (fun _ => True) L.length W0 := by
    intro l J Jx W hW _ _ hJw _ hY h0
    exact sevens1_in Fence.wide (3 - 1) trivial rfl (by omega) l (w.heap.size + 1) (w.heap.size + 2) (by omega) x b 11 L hL J Jx hJw hY W
      ((hW.block _ (by omega)).trans bN) ((hW.block _ (by omega)).trans bG) h0
  refine rangeFunc_state (Bs := fun c => c = w.heap.size + 1) rfl (by omega) (gf := 30) (lb := #[.pointer (some ⟨w.heap.size + 1, 0, none⟩), .pointer (some ⟨w.heap.size + 1 + 1, 0, none⟩)]) rfl trivial (enters_of Try.func30 (by kernel_rfl) rfl)
    (fun c hc => by subst hc; omega) hseq (fun h k => ⟨k.1.trans h.1, k.2.trans h.2⟩) (fun W l o o' hl _ _ _ => ⟨World.putObj_heap_other (by omega), World.putObj_heap_other (by omega)⟩) (Below.refl _ _) (fun _ => rfl)
    (fun pre W => ((∃ v, Boxed W w.heap.size 22 v ∧ W.ownsRow w.heap.size 5 1 v pre.length ((pre.map lebByte).map (Value.int .u8)) ∧ True) ∧ ∃ u u2, Blk W (w.heap.size + 1) #[u] 3 ∧ Blk W (w.heap.size + 2) #[u2] 4) ∧ Below w.heap.size w W)
    (fun _ _ _ => False)
    (OwnFrom.and (OwnFrom.and (Own.from (holdsRow_own w.heap.size w.heap.size 22 5 1 (fun pre : List (Int × Bool) => pre.length) (fun pre => (pre.map lebByte).map (Value.int .u8)) (fun _ _ => True)) _)
      (Own.from (fun s A B row hs hg hr => by obtain ⟨u, u2, hu, hu2⟩ := hs; exact ⟨u, u2, Blk.own (w.heap.size + 1) 3 (fun _ : Unit => #[u]) () A B row hu hg hr, Blk.own (w.heap.size + 2) 4 (fun _ : Unit => #[u2]) () A B row hu2 hg hr⟩) _)) (ownFrom_below (Nat.le_refl _) (by omega)))
    (fun _ _ _ _ _ hs _ _ => hs) ?iw (fun _ _ _ _ _ _ h => h.elim)
    ⟨⟨⟨_, bO, World.ownsRow_nil _ _ _ _, trivial⟩, _, _, bN, bG⟩, hB0⟩
    (fun y => { tmps := #[Value.int IntKind.i64 x, Value.bool b, undef, undef, Value.pointer (some { block := w.heap.size, off := 0 }),
        .int .u8 y.1, .bool y.2, Value.int IntKind.i64 x, Value.bool b,
        Value.func (Fn.func 30) #[]
          #[Value.pointer (some { block := w.heap.size + 1, off := 0 }),
            Value.pointer (some { block := w.heap.size + 1 + 1, off := 0 })],
        .int .u8 y.1, .bool y.2, undef, undef, undef, undef, undef, undef, undef, undef, undef], defers := [] }) ?assign ?body ?done ?stop
  case iw =>
    rintro pre W c v rfl ⟨⟨⟨v0, h1, h2, _⟩, u, u2, h3, h4⟩, hB⟩
    exact ⟨⟨⟨v0, h1.kept (grownBy_setCell' W _ v) (by simp), h2.kept (grownBy_setCell' W _ v) (.inr (fun e => Boxed.not_row (show Boxed W (w.heap.size + 1) 3 u from h3) (by decide) h2 e.symm)), trivial⟩, _, _, h3.set 0 v, h4.other _ _ (by simp)⟩, hB.setCell (p := ⟨w.heap.size + 1, 0, none⟩) (by simp) _⟩
  case assign =>
    intro l y W K hK
    gi_wp2
    exact hK
  case body =>
    rintro l pre ⟨y, m⟩ W ⟨⟨⟨v, hv, hrow, _⟩, u, u2, hN, hG⟩, hB⟩ hlt
    have hc := hv.cell
    have hpl : pre.length ≤ 11 := by omega
    have hWs := hB.size
    clear hseq hL hlen bO bN bG hB0 hs0
    have key : ∀ (y' : Int) (v' : Value) (w1 : World), y' = lebByte (y, m) → w1.ownsRow w.heap.size 5 1 v' (pre.length + 1) ((pre.map lebByte).map (Value.int .u8) ++ [.int .u8 y']) → (W.alloc (.cells #[Value.int .u8 y'] 5)).grownBy w1 v.ownBlock →
        Boxed w1 w.heap.size 22 v ∧ (∀ Bf, KeepsFrom Bf W (w1.setCell ⟨w.heap.size, 0, none⟩ v')) ∧
        ((w1.setCell ⟨w.heap.size, 0, none⟩ v').heap[w.heap.size + 1]? = W.heap[w.heap.size + 1]? ∧ (w1.setCell ⟨w.heap.size, 0, none⟩ v').heap[w.heap.size + 2]? = W.heap[w.heap.size + 2]?) ∧
        (((∃ v, Boxed (w1.setCell ⟨w.heap.size, 0, none⟩ v') w.heap.size 22 v ∧ (w1.setCell ⟨w.heap.size, 0, none⟩ v').ownsRow w.heap.size 5 1 v (pre ++ [(y, m)]).length (((pre ++ [(y, m)]).map lebByte).map (Value.int .u8)) ∧ True) ∧ ∃ u u2, Blk (w1.setCell ⟨w.heap.size, 0, none⟩ v') (w.heap.size + 1) #[u] 3 ∧ Blk (w1.setCell ⟨w.heap.size, 0, none⟩ v') (w.heap.size + 2) #[u2] 4) ∧ Below w.heap.size w (w1.setCell ⟨w.heap.size, 0, none⟩ v')) := by
      intro y' v' w1 hy hown' hgrow
      obtain ⟨hv1, hv2, hr2, hk2, hb2⟩ := hv.appended (by decide) hrow hWs (Nat.le_refl _) hown' hgrow
      have n1 := Boxed.not_row (show Boxed W (w.heap.size + 1) 3 u from hN) (by decide) hrow
      have n2 := Boxed.not_row (show Boxed W (w.heap.size + 2) 4 u2 from hG) (by decide) hrow
      have e1 : (w1.setCell ⟨w.heap.size, 0, none⟩ v').heap[w.heap.size + 1]? = W.heap[w.heap.size + 1]? :=
        (heap_setCell_other _ _ _ _ (by simp)).trans ((hgrow.block _ (by have := hN.lt; simp; omega) n1).trans (heap_alloc_old W _ _ hN.lt))
      have e2 : (w1.setCell ⟨w.heap.size, 0, none⟩ v').heap[w.heap.size + 2]? = W.heap[w.heap.size + 2]? :=
        (heap_setCell_other _ _ _ _ (by simp)).trans ((hgrow.block _ (by have := hG.lt; simp; omega) n2).trans (heap_alloc_old W _ _ hG.lt))
      refine ⟨hv1, fun Bf => hk2.from _, ⟨e1, e2⟩, ⟨⟨_, hv2, ?_, trivial⟩, _, _, e1.trans hN, e2.trans hG⟩, hB.trans hb2⟩
      have e3 : (pre ++ [(y, m)]).map lebByte = pre.map lebByte ++ [y'] := by rw [hy]; simp
      rw [e3]
      simpa using hr2
    clear hN hG
    cases m
    · gi_wp2_with (gi_at_builtin; refine wpListIn_append_own _ rfl _ _ 22 rfl w.heap.size 5 i0 (.int .u8 0) 1 1 Try.underlying22 hi hz0 hz1 hz2 rfl (by decide) _ _ _ rfl (hrow.alloc _) ⟨W.heap.size, 0, none⟩ 1 1 [.int .u8 y] rfl rfl (cell_one_new _ _ _) (by simp [Value.oneCell']) (by unfold maxLen; omega) (by omega) (by simp; omega) ?_; intro v' w1 hown' hgrow _; obtain ⟨g', cap', rfl⟩ := ownsRow_succ hown'; obtain ⟨k1, k2, k3, k4⟩ := key y _ w1 rfl hown' hgrow; clear key; have hc1 := k1.cell; have hf1 := k1.frozen)
      exact ⟨k2 _, k3, k4⟩
    · gi_wp2_with (gi_at_builtin; refine wpListIn_append_own _ rfl _ _ 22 rfl w.heap.size 5 i0 (.int .u8 0) 1 1 Try.underlying22 hi hz0 hz1 hz2 rfl (by decide) _ _ _ rfl (hrow.alloc _) ⟨W.heap.size, 0, none⟩ 1 1 [.int .u8 (Go.bits .or .u8 y 128)] rfl rfl (cell_one_new _ _ _) (by simp [Value.oneCell']) (by unfold maxLen; omega) (by omega) (by simp; omega) ?_; intro v' w1 hown' hgrow _; obtain ⟨g', cap', rfl⟩ := ownsRow_succ hown'; obtain ⟨k1, k2, k3, k4⟩ := key (Go.bits .or .u8 y 128) _ w1 rfl hown' hgrow; clear key; have hc1 := k1.cell; have hf1 := k1.frozen)
      exact ⟨k2 _, k3, k4⟩
  case done =>
    rintro D ys W hD rfl ⟨⟨⟨v, hv, hrow, _⟩, u, u2, hN, _⟩, hB⟩ hK
    have hc := hv.cell
    have hf := hv.frozen
    clear hseq hL bO bN bG hB0
    rcases hrow.2 with ⟨rfl, h0⟩ | ⟨g, cap, cur, rfl, hg, hgb, hnc, hcm, hcs, ht⟩
    · gi_wp2_with (refine ⟨trivial, ?_⟩; gi_at_call 27; refine (callsIn_wide.2 (clip_nil _)).mono ?_; rintro e w' ⟨rfl, rfl⟩)
      obtain rfl : ys = [] := List.eq_nil_of_length_eq_zero h0
      refine ⟨by simp, .inl ⟨_, _, rfl, run_takeDeferred (P := Try.prog) (by rw [heap_setCell_other _ _ _ _ (by simp; omega)]; exact hK), ?_⟩⟩
      have hc3 : ((w'.setCell ⟨w.heap.size, 0, none⟩ (.slice none 0 0)).putObj D (.deferred none)).cell? ⟨w.heap.size, 0, none⟩ = some (.slice none 0 0) := by
        have h1 : ((w'.setCell ⟨w.heap.size, 0, none⟩ (.slice none 0 0)).putObj D (.deferred none)).heap[w.heap.size]? = _ := World.putObj_heap_other (by omega)
        exact Boxed.cell (t := 22) (h1.trans (hv.set (.slice none 0 0)))
      refine ⟨.slice none 0 0, by simp [results, Try.results19, go_sem, hc3], .slice none 0 0, rfl, Kd.Q_of_R (Kd.R_nil _ _ _ _ _), ?_⟩
      exact (hB.setCell (p := ⟨w.heap.size, 0, none⟩) (by simp) _).trans (belowK_b (w := w) (Nat.le_refl _) _ D _ (.deferred none) (by omega) (by rw [heap_setCell_other _ _ _ _ (by simp; omega)]; exact hK) rfl rfl)
    · gi_wp2_with (refine ⟨trivial, ?_⟩; gi_at_call 27; refine (callsIn_wide.2 (clip_any g _ cap hnc _)).mono ?_; rintro e w' ⟨rfl, rfl⟩)
      refine ⟨by simp, .inl ⟨_, _, rfl, run_takeDeferred (P := Try.prog) (by rw [heap_setCell_other _ _ _ _ (by simp; omega)]; exact hK), ?_⟩⟩
      have hgh : g ≠ w.heap.size := by
        have := Boxed.not_row hv (by decide) hrow
        intro e
        exact this (by simp [Value.ownBlock, e])
      have hgD : g ≠ D := by
        intro e
        rw [e] at hgb
        rw [hgb] at hK
        cases hK
      have hg3 : ((w'.setCell ⟨w.heap.size, 0, none⟩ (.slice (some ⟨g, 0, none⟩) ys.length ys.length)).putObj D (.deferred none)).heap[g]? = some (.cells cur 5 (0, 0)) :=
        (World.putObj_heap_other hgD).trans ((heap_setCell_other _ _ _ _ hgh).trans hgb)
      have hc3 : ((w'.setCell ⟨w.heap.size, 0, none⟩ (.slice (some ⟨g, 0, none⟩) ys.length ys.length)).putObj D (.deferred none)).cell? ⟨w.heap.size, 0, none⟩ = some (.slice (some ⟨g, 0, none⟩) ys.length ys.length) := by
        have h1 : ((w'.setCell ⟨w.heap.size, 0, none⟩ (.slice (some ⟨g, 0, none⟩) ys.length ys.length)).putObj D (.deferred none)).heap[w.heap.size]? = _ := World.putObj_heap_other (by omega)
        exact Boxed.cell (t := 22) (h1.trans (hv.set _))
      refine ⟨_, by simp [results, Try.results19, go_sem, hc3], _, rfl, q_clip trivial (by simp) hg hg3 hnc hcm hcs ht, ?_⟩
      exact (hB.setCell (p := ⟨w.heap.size, 0, none⟩) (by simp) _).trans (belowK_b (w := w) (Nat.le_refl _) _ D _ (.deferred none) (by omega) (by rw [heap_setCell_other _ _ _ _ (by simp; omega)]; exact hK) rfl rfl)
  case stop =>
    rintro D c pre W _ _ h _
    exact h.elim

theorem svL_length (s : Bool) : ∀ (k : Nat) (n : Int) (l : List (Int × Bool)), svL s k n = some l → l.length ≤ k := by
  intro k
  induction k with
  | zero => intro n l h; simp [svL] at h
  | succ k ih =>
    intro n l h
    simp only [svL] at h
    split at h
    · obtain ⟨r, h1, h2⟩ := Option.bind_eq_some_iff.mp h
      obtain rfl := Option.some.inj h2
      have := ih _ _ h1
      simp; omega
    · obtain rfl := Option.some.inj h
      simp
def lebPutF (a0 : Int) (a1 : Bool) : Option (List Int) := (svL a1 11 a0).bind fun l => some (l.map lebByte)
theorem lebPut_calls (a0 : Int) (a1 : Bool) (r : List Int) (w : World) (h : lebPutF a0 a1 = some r) :
    Calls Try.prog 19 #[.int .i64 a0, .bool a1] w fun e w' => ∃ v0_ : Value, e = .returned (v0_) ∧ Kd.Q (Kd.int .u8) 5 w' w.heap.size (fun _ => True) v0_ r ∧ Below w.heap.size w w' := by
  unfold lebPutF at h
  obtain ⟨L, h1, h2⟩ := Option.bind_eq_some_iff.mp h
  obtain rfl := Option.some.inj h2
  exact put_any a0 a1 L h1 (svL_length _ _ _ _ h1) w
theorem q_string {P : Program} {w : World} {base : Nat} {ok : Nat → Prop} {e' src dst e : TypeId} {v : Value} {xs : List Int} (hs : P.underlying src = some (.slice e)) (he : P.underlying e = some (.int .u8)) (hd : P.underlying dst = some .string)
    (h : (Kd.int .u8).Q e' w base ok v xs) : (convert src dst v).run P w = .ok (.string (strOfNums xs)) w := by
  obtain ⟨A, c, rfl, _, hC⟩ := Kd.Q_reads h
  exact Kd.C_string hs he hd hC
end Go.Proofs.Ytgnnalempnbjnaa
