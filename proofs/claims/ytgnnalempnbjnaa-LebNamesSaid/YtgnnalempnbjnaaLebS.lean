/-
  The walk of package leb's iterator over sevens. No statement is proved here.
-/
import Derived.Test.YtgnnalempnbjnaaProg
import Derived.Test.YtgnnalempnbjnaaKit
import Derived.Test.YtgnnalempnbjnaaRange
import Derived.Test.YtgnnalempnbjnaaWWords
import Derived.Sort.LoopGhostIn
import Derived.Deep.LoopGhost
namespace Go.Proofs.Ytgnnalempnbjnaa
open Go.RowKit Go.Shelf Go.Proofs.YtgnnalempnbjnaaW.PrintWords
def sev7 (n : Int) : Int := Go.bits .and .i64 n 127 % 256
def sevMore (signed : Bool) (n : Int) : Bool := if signed then (((n / 128 != 0) && (n / 128 != -1)) || (Go.bits .and .i64 (n / 128) 1 != sev7 n / 64)) else (n / 128 != 0)
def svL (signed : Bool) : Nat → Int → Option (List (Int × Bool))
  | 0, _ => none
  | k+1, n => if sevMore signed n = true then (svL signed k (n / 128)).bind (fun l => some ((sev7 n, true) :: l)) else some [(sev7 n, false)]
theorem svL_true {s : Bool} {k : Nat} {n : Int} {rest : List (Int × Bool)} (hm : sevMore s n = true) (h : svL s k n = some rest) : ∃ k' rest', svL s k' (n / 128) = some rest' ∧ rest = (sev7 n, true) :: rest' := by
  cases k with
  | zero => simp [svL] at h
  | succ k =>
    simp only [svL] at h
    rw [if_pos hm] at h
    obtain ⟨l, h1, h2⟩ := Option.bind_eq_some_iff.mp h
    exact ⟨k, l, h1, (Option.some.inj h2).symm⟩
theorem svL_false {s : Bool} {k : Nat} {n : Int} {rest : List (Int × Bool)} (hm : sevMore s n = false) (h : svL s k n = some rest) : rest = [(sev7 n, false)] := by
  cases k with
  | zero => simp [svL] at h
  | succ k =>
    simp only [svL] at h
    rw [if_neg (by rw [hm]; decide)] at h
    exact (Option.some.inj h).symm
attribute [local go_sem] Oper.semAt_some
set_option maxHeartbeats 2000000 in
theorem sevens1_in (F : Fence) (n : Nat) (h30 : F.fn 30) (hro : F.round = none) (hn : 1 ≤ n) (l Bn Bg : Nat) (hne : Bn ≠ Bg) (n0 : Int) (signed : Bool) (K : Nat) (L : List (Int × Bool)) (hL : svL signed K n0 = some L) (J Jx : List (Int × Bool) → World → Prop)
    (hJw : ∀ pre W b v, b = Bn → J pre W → J pre (W.setCell ⟨b, 0, none⟩ v)) 
    (hY : ∀ pre x W, J pre W → pre.length < L.length → YieldAt F (n - 1) Try.prog l #[.int .u8 x.1, .bool x.2] W fun e W' =>
      (e = .returned (.bool true) ∧ J (pre ++ [x]) W' ∧ (W'.heap[Bn]? = W.heap[Bn]? ∧ W'.heap[Bg]? = W.heap[Bg]?)) ∨ (e = .returned (.bool false) ∧ Jx (pre ++ [x]) W'))
    (W : World) (hBn : Blk W Bn #[.int .i64 n0] 3) (hBg : Blk W Bg #[.bool signed] 4) (h0 : J [] W) :
    CallsIn F n Try.prog 30 #[.func (.yield l) #[] #[], .pointer (some ⟨Bn, 0, none⟩), .pointer (some ⟨Bg, 0, none⟩)] W fun e W' => (∃ v, e = .returned v) ∧
      ((∃ ys, ys = L ∧ J ys W') ∨ (∃ pre, True ∧ Jx pre W')) := by
  refine callsIn_of_wp Try.func30 rfl h30 ?_ hro
  simp only [Try.ntmps30, List.size_toArray, List.length_cons, List.length_nil, Nat.reduceAdd, Nat.reduceSub, Array.replicate_succ, Array.replicate_zero, List.push_toArray, List.append_toArray, List.nil_append, List.cons_append]
  gi_wp2
  gi_loopg [4] (L.length + 1) (fun kq m wr => (m = .bool true ∧ ∃ pre rest k nn, L = pre ++ rest ∧ kq = rest.length + 1 ∧ Aside0 (svL signed k nn = some rest) ∧ J pre wr ∧ Blk wr Bn #[.int .i64 nn] 3 ∧ Blk wr Bg #[.bool signed] 4) ∨ (m = .bool false ∧ kq = 1 ∧ J L wr))
  case atStart => exact .inl ⟨rfl, [], L, K, n0, rfl, rfl, ⟨hL⟩, h0, hBn, hBg⟩
  case round =>
    rcases hrel with ⟨rfl, pre, rest, k, nn, hpr, hkq, hsv, hJ, hbn, hbg⟩ | ⟨rfl, hkq, hJ⟩
    · have c1 := hbn.cell 0
      have f1 := hbn.frozen 0
      have c2 := hbg.cell 0
      simp only [List.getElem?_toArray, List.getElem?_cons_zero] at c1 c2
      obtain ⟨q, hq⟩ : ∃ q, nn / 128 = q := ⟨_, rfl⟩
      cases signed
      · cases b1 : (q != 0)
        · have hm : sevMore false nn = false := by unfold sevMore sev7; rw [hq]; first | (simp only [b1, b2, b3]; rfl) | (simp only [b1]; rfl)
          obtain rfl := svL_false hm hsv.out
          obtain ⟨fn, tmps, assign, body, hy, hR⟩ := hY pre (sev7 nn, false) (wr.setCell ⟨Bn, 0, none⟩ (.int .i64 q)) (hJw _ _ _ _ rfl hJ) (by rw [hpr]; simp)
          dsimp only [sev7] at hy
          clear hL hBn hBg h0
          gi_wp2
          refine hR.mono ?_
          rintro e W3 (⟨rfl, hJ3, hk1, hk2⟩ | ⟨rfl, hJx3⟩)
          · clear hY hR hy
            gi_wp2
            go_roundg 1
            case measure => simp at hkq; omega
            case rel => exact .inr ⟨rfl, rfl, by rw [hpr]; exact hJ3⟩
          · gi_wp2
            refine bodyPost_ret (results_none rfl _ _ _) rfl ?_
            exact ⟨⟨_, rfl⟩, .inr ⟨_, trivial, hJx3⟩⟩
        · have hm : sevMore false nn = true := by unfold sevMore sev7; rw [hq]; first | (simp only [b1, b2, b3]; rfl) | (simp only [b1]; rfl)
          obtain ⟨k', rest', hs', rfl⟩ := svL_true hm hsv.out
          obtain ⟨fn, tmps, assign, body, hy, hR⟩ := hY pre (sev7 nn, true) (wr.setCell ⟨Bn, 0, none⟩ (.int .i64 q)) (hJw _ _ _ _ rfl hJ) (by rw [hpr]; simp)
          dsimp only [sev7] at hy
          clear hL hBn hBg h0
          gi_wp2
          refine hR.mono ?_
          rintro e W3 (⟨rfl, hJ3, hk1, hk2⟩ | ⟨rfl, hJx3⟩)
          · clear hY hR hy
            gi_wp2
            go_roundg (rest'.length + 1)
            case measure => simp at hkq; omega
            case rel => exact .inl ⟨rfl, pre ++ [(sev7 nn, true)], rest', k', q, by simp [hpr], rfl, ⟨hq ▸ hs'⟩, hJ3, hk1.trans (hbn.set 0 _), hk2.trans (hbg.other _ _ (fun e => hne e.symm))⟩
          · gi_wp2
            refine bodyPost_ret (results_none rfl _ _ _) rfl ?_
            exact ⟨⟨_, rfl⟩, .inr ⟨_, trivial, hJx3⟩⟩
      · cases b1 : (q != 0) <;> cases b2 : (q != -1) <;> cases b3 : (Go.bits .and .i64 q 1 != Go.bits .and .i64 nn 127 % 256 / 64)
        · have hm : sevMore true nn = false := by unfold sevMore sev7; rw [hq]; first | (simp only [b1, b2, b3]; rfl) | (simp only [b1]; rfl)
          obtain rfl := svL_false hm hsv.out
          obtain ⟨fn, tmps, assign, body, hy, hR⟩ := hY pre (sev7 nn, false) (wr.setCell ⟨Bn, 0, none⟩ (.int .i64 q)) (hJw _ _ _ _ rfl hJ) (by rw [hpr]; simp)
          dsimp only [sev7] at hy
          clear hL hBn hBg h0
          gi_wp2
          refine hR.mono ?_
          rintro e W3 (⟨rfl, hJ3, hk1, hk2⟩ | ⟨rfl, hJx3⟩)
          · clear hY hR hy
            gi_wp2
            go_roundg 1
            case measure => simp at hkq; omega
            case rel => exact .inr ⟨rfl, rfl, by rw [hpr]; exact hJ3⟩
          · gi_wp2
            refine bodyPost_ret (results_none rfl _ _ _) rfl ?_
            exact ⟨⟨_, rfl⟩, .inr ⟨_, trivial, hJx3⟩⟩
        · have hm : sevMore true nn = true := by unfold sevMore sev7; rw [hq]; first | (simp only [b1, b2, b3]; rfl) | (simp only [b1]; rfl)
          obtain ⟨k', rest', hs', rfl⟩ := svL_true hm hsv.out
          obtain ⟨fn, tmps, assign, body, hy, hR⟩ := hY pre (sev7 nn, true) (wr.setCell ⟨Bn, 0, none⟩ (.int .i64 q)) (hJw _ _ _ _ rfl hJ) (by rw [hpr]; simp)
          dsimp only [sev7] at hy
          clear hL hBn hBg h0
          gi_wp2
          refine hR.mono ?_
          rintro e W3 (⟨rfl, hJ3, hk1, hk2⟩ | ⟨rfl, hJx3⟩)
          · clear hY hR hy
            gi_wp2
            go_roundg (rest'.length + 1)
            case measure => simp at hkq; omega
            case rel => exact .inl ⟨rfl, pre ++ [(sev7 nn, true)], rest', k', q, by simp [hpr], rfl, ⟨hq ▸ hs'⟩, hJ3, hk1.trans (hbn.set 0 _), hk2.trans (hbg.other _ _ (fun e => hne e.symm))⟩
          · gi_wp2
            refine bodyPost_ret (results_none rfl _ _ _) rfl ?_
            exact ⟨⟨_, rfl⟩, .inr ⟨_, trivial, hJx3⟩⟩
        · have hm : sevMore true nn = false := by unfold sevMore sev7; rw [hq]; first | (simp only [b1, b2, b3]; rfl) | (simp only [b1]; rfl)
          obtain rfl := svL_false hm hsv.out
          obtain ⟨fn, tmps, assign, body, hy, hR⟩ := hY pre (sev7 nn, false) (wr.setCell ⟨Bn, 0, none⟩ (.int .i64 q)) (hJw _ _ _ _ rfl hJ) (by rw [hpr]; simp)
          dsimp only [sev7] at hy
          clear hL hBn hBg h0
          gi_wp2
          refine hR.mono ?_
          rintro e W3 (⟨rfl, hJ3, hk1, hk2⟩ | ⟨rfl, hJx3⟩)
          · clear hY hR hy
            gi_wp2
            go_roundg 1
            case measure => simp at hkq; omega
            case rel => exact .inr ⟨rfl, rfl, by rw [hpr]; exact hJ3⟩
          · gi_wp2
            refine bodyPost_ret (results_none rfl _ _ _) rfl ?_
            exact ⟨⟨_, rfl⟩, .inr ⟨_, trivial, hJx3⟩⟩
        · have hm : sevMore true nn = true := by unfold sevMore sev7; rw [hq]; first | (simp only [b1, b2, b3]; rfl) | (simp only [b1]; rfl)
          obtain ⟨k', rest', hs', rfl⟩ := svL_true hm hsv.out
          obtain ⟨fn, tmps, assign, body, hy, hR⟩ := hY pre (sev7 nn, true) (wr.setCell ⟨Bn, 0, none⟩ (.int .i64 q)) (hJw _ _ _ _ rfl hJ) (by rw [hpr]; simp)
          dsimp only [sev7] at hy
          clear hL hBn hBg h0
          gi_wp2
          refine hR.mono ?_
          rintro e W3 (⟨rfl, hJ3, hk1, hk2⟩ | ⟨rfl, hJx3⟩)
          · clear hY hR hy
            gi_wp2
            go_roundg (rest'.length + 1)
            case measure => simp at hkq; omega
            case rel => exact .inl ⟨rfl, pre ++ [(sev7 nn, true)], rest', k', q, by simp [hpr], rfl, ⟨hq ▸ hs'⟩, hJ3, hk1.trans (hbn.set 0 _), hk2.trans (hbg.other _ _ (fun e => hne e.symm))⟩
          · gi_wp2
            refine bodyPost_ret (results_none rfl _ _ _) rfl ?_
            exact ⟨⟨_, rfl⟩, .inr ⟨_, trivial, hJx3⟩⟩
        · have hm : sevMore true nn = false := by unfold sevMore sev7; rw [hq]; first | (simp only [b1, b2, b3]; rfl) | (simp only [b1]; rfl)
          obtain rfl := svL_false hm hsv.out
          obtain ⟨fn, tmps, assign, body, hy, hR⟩ := hY pre (sev7 nn, false) (wr.setCell ⟨Bn, 0, none⟩ (.int .i64 q)) (hJw _ _ _ _ rfl hJ) (by rw [hpr]; simp)
          dsimp only [sev7] at hy
          clear hL hBn hBg h0
          gi_wp2
          refine hR.mono ?_
          rintro e W3 (⟨rfl, hJ3, hk1, hk2⟩ | ⟨rfl, hJx3⟩)
          · clear hY hR hy
            gi_wp2
            go_roundg 1
            case measure => simp at hkq; omega
            case rel => exact .inr ⟨rfl, rfl, by rw [hpr]; exact hJ3⟩
          · gi_wp2
            refine bodyPost_ret (results_none rfl _ _ _) rfl ?_
            exact ⟨⟨_, rfl⟩, .inr ⟨_, trivial, hJx3⟩⟩
        · have hm : sevMore true nn = true := by unfold sevMore sev7; rw [hq]; first | (simp only [b1, b2, b3]; rfl) | (simp only [b1]; rfl)
          obtain ⟨k', rest', hs', rfl⟩ := svL_true hm hsv.out
          obtain ⟨fn, tmps, assign, body, hy, hR⟩ := hY pre (sev7 nn, true) (wr.setCell ⟨Bn, 0, none⟩ (.int .i64 q)) (hJw _ _ _ _ rfl hJ) (by rw [hpr]; simp)
          dsimp only [sev7] at hy
          clear hL hBn hBg h0
          gi_wp2
          refine hR.mono ?_
          rintro e W3 (⟨rfl, hJ3, hk1, hk2⟩ | ⟨rfl, hJx3⟩)
          · clear hY hR hy
            gi_wp2
            go_roundg (rest'.length + 1)
            case measure => simp at hkq; omega
            case rel => exact .inl ⟨rfl, pre ++ [(sev7 nn, true)], rest', k', q, by simp [hpr], rfl, ⟨hq ▸ hs'⟩, hJ3, hk1.trans (hbn.set 0 _), hk2.trans (hbg.other _ _ (fun e => hne e.symm))⟩
          · gi_wp2
            refine bodyPost_ret (results_none rfl _ _ _) rfl ?_
            exact ⟨⟨_, rfl⟩, .inr ⟨_, trivial, hJx3⟩⟩
        · have hm : sevMore true nn = true := by unfold sevMore sev7; rw [hq]; first | (simp only [b1, b2, b3]; rfl) | (simp only [b1]; rfl)
          obtain ⟨k', rest', hs', rfl⟩ := svL_true hm hsv.out
          obtain ⟨fn, tmps, assign, body, hy, hR⟩ := hY pre (sev7 nn, true) (wr.setCell ⟨Bn, 0, none⟩ (.int .i64 q)) (hJw _ _ _ _ rfl hJ) (by rw [hpr]; simp)
          dsimp only [sev7] at hy
          clear hL hBn hBg h0
          gi_wp2
          refine hR.mono ?_
          rintro e W3 (⟨rfl, hJ3, hk1, hk2⟩ | ⟨rfl, hJx3⟩)
          · clear hY hR hy
            gi_wp2
            go_roundg (rest'.length + 1)
            case measure => simp at hkq; omega
            case rel => exact .inl ⟨rfl, pre ++ [(sev7 nn, true)], rest', k', q, by simp [hpr], rfl, ⟨hq ▸ hs'⟩, hJ3, hk1.trans (hbn.set 0 _), hk2.trans (hbg.other _ _ (fun e => hne e.symm))⟩
          · gi_wp2
            refine bodyPost_ret (results_none rfl _ _ _) rfl ?_
            exact ⟨⟨_, rfl⟩, .inr ⟨_, trivial, hJx3⟩⟩
        · have hm : sevMore true nn = true := by unfold sevMore sev7; rw [hq]; first | (simp only [b1, b2, b3]; rfl) | (simp only [b1]; rfl)
          obtain ⟨k', rest', hs', rfl⟩ := svL_true hm hsv.out
          obtain ⟨fn, tmps, assign, body, hy, hR⟩ := hY pre (sev7 nn, true) (wr.setCell ⟨Bn, 0, none⟩ (.int .i64 q)) (hJw _ _ _ _ rfl hJ) (by rw [hpr]; simp)
          dsimp only [sev7] at hy
          clear hL hBn hBg h0
          gi_wp2
          refine hR.mono ?_
          rintro e W3 (⟨rfl, hJ3, hk1, hk2⟩ | ⟨rfl, hJx3⟩)
          · clear hY hR hy
            gi_wp2
            go_roundg (rest'.length + 1)
            case measure => simp at hkq; omega
            case rel => exact .inl ⟨rfl, pre ++ [(sev7 nn, true)], rest', k', q, by simp [hpr], rfl, ⟨hq ▸ hs'⟩, hJ3, hk1.trans (hbn.set 0 _), hk2.trans (hbg.other _ _ (fun e => hne e.symm))⟩
          · gi_wp2
            refine bodyPost_ret (results_none rfl _ _ _) rfl ?_
            exact ⟨⟨_, rfl⟩, .inr ⟨_, trivial, hJx3⟩⟩
    · gi_wp2
      go_end0
      exact ⟨⟨_, rfl⟩, .inl ⟨_, rfl, hJ⟩⟩
end Go.Proofs.Ytgnnalempnbjnaa
