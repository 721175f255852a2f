/-
  Small laws that every walk of this seat uses: blocks of cells, byte slices in memory. No statement is proved here.
-/
import Derived.RangeFuncNested
import Derived.RangeFuncBound
import Derived.RangeFuncCalls
import Derived.RangeFuncLeaves
import Derived.RangeFuncBox
import Derived.Shelf.Abstract
import Derived.Shelf.RegionOpen
import Derived.WalkKit
import Derived.OwnWalkIn
import Derived.TacticsInMore
import Derived.LoopNIn
import Derived.LoopIn
import Derived.WalkSpells
import Derived.WalkLawsBesides
import Derived.Deep.LoopGhost
import Derived.Laws.BitsLemmas
import Derived.Laws.BitsAllLaws
import Derived.Laws.Rows
import Derived.Deep.WholeRow
import Derived.Lib.Hide
namespace Go.Proofs.Ythnnikhkmpafjaa
open Go.RowKit Go.Shelf
/-- Block b of W is exactly the cells c, of type t, none frozen. -/
def Blk (W : World) (b : Nat) (c : Array Value) (t : TypeId) : Prop := W.heap[b]? = some (.cells c t (0, 0))
theorem Blk.lt {W : World} {b : Nat} {c : Array Value} {t : TypeId} (h : Blk W b c t) : b < W.heap.size := (Array.getElem?_eq_some_iff.1 h).1
theorem Blk.cell {W : World} {b : Nat} {c : Array Value} {t : TypeId} (h : Blk W b c t) (j : Nat) : W.cell? ⟨b, j, none⟩ = c[j]? := cell_of_row W b j c t _ h
theorem Blk.frozen {W : World} {b : Nat} {c : Array Value} {t : TypeId} (h : Blk W b c t) (j : Nat) : W.frozen? ⟨b, j, none⟩ = false := frozen_of_row W b j c t h
theorem Blk.kept {W W' : World} {row : Option Nat} {b : Nat} {c : Array Value} {t : TypeId} (h : Blk W b c t) (hg : W.grownBy W' row) (hne : some b ≠ row) : Blk W' b c t := (hg.block b h.lt hne).trans h
theorem Blk.alloc {W : World} {b : Nat} {c : Array Value} {t : TypeId} (h : Blk W b c t) (o : Obj) : Blk (W.alloc o) b c t := (heap_alloc_old W o b h.lt).trans h
theorem Blk.new (W : World) (c : Array Value) (t : TypeId) : Blk (W.alloc (.cells c t)) W.heap.size c t := heap_alloc_new W _
theorem Blk.drew {W : World} {b : Nat} {c : Array Value} {t : TypeId} (h : Blk W b c t) : Blk W.drew b c t := h
theorem Blk.set {W : World} {b : Nat} {c : Array Value} {t : TypeId} (h : Blk W b c t) (j : Nat) (v : Value) : Blk (W.setCell ⟨b, j, none⟩ v) b (c.setIfInBounds j v) t := heap_setCell_same W b j c t v h
theorem Blk.other {W : World} {b : Nat} {c : Array Value} {t : TypeId} (h : Blk W b c t) (a : Addr) (v : Value) (hne : b ≠ a.block) : Blk (W.setCell a v) b c t := (heap_setCell_other W a b v hne).trans h
theorem Blk.own {β : Type} (b : Nat) (t : TypeId) (c : β → Array Value) : Own (fun s W => Blk W b (c s) t) := fun s W W' row hs hg hr => by
  refine hs.kept hg (fun e => ?_)
  obtain ⟨o, ho, hc⟩ := hr b e.symm
  rw [show W.heap[b]? = _ from hs] at ho
  cases ho
  cases hc
theorem World.alloc_setRow_mid (w : World) (A C : Obj) (old new : Array Value) (t : TypeId) :
    (((w.alloc A).alloc (.cells old t)).alloc C).setRow (w.heap.size + 1) new = ((w.alloc A).alloc (.cells new t)).alloc C := by
  simp only [World.setRow, World.alloc]
  congr 1
  apply Array.ext_getElem?
  intro i
  simp only [Array.getElem?_modify, Array.getElem?_push, Array.size_push]
  by_cases h : w.heap.size + 1 = i
  · subst h; simp
  · have h' : ¬ i = w.heap.size + 1 := fun e => h e.symm
    simp [h, h']
theorem run_storeCells_mid {P : Program} (w : World) (A C : Obj) (old new : Array Value) (t : TypeId) (ho : old.size = new.size) (h1 : new.all (·.oneCell') = true) :
    (storeCells ⟨w.heap.size + 1, 0, none⟩ new.toList).run P (((w.alloc A).alloc (.cells old t)).alloc C) = .ok () (((w.alloc A).alloc (.cells new t)).alloc C) := by
  have hg : (((w.alloc A).alloc (.cells old t)).alloc C).heap[w.heap.size + 1]? = some (.cells old t (0, 0)) := by
    rw [heap_alloc_old _ _ _ (by simp)]; exact heap_alloc2_new w A _
  have := run_storeCells_from (P := P) (w.heap.size + 1) t new.toList 0 old _ hg (by simp; omega) (fun v hv => (Array.all_eq_true_iff_forall_mem.1 h1) v (by simpa using hv))
  rw [this]
  simp [World.alloc_setRow_mid]
def Bytes (n₀ : Nat) (W : World) (v : Value) (bs : List UInt8) : Prop :=
  ∃ a cap, v = .slice a bs.length cap ∧ bs.length ≤ 9223372036854775807 ∧ (bs = [] ∨ ∃ b off, a = some ⟨b, off, none⟩ ∧ b < n₀ ∧ ∀ j (h : j < bs.length), W.cell? ⟨b, off + j, none⟩ = some (.int .u8 (bs[j].toNat : Int)))
theorem Bytes.below {n₀ : Nat} {A B : World} (h : Below n₀ A B) {v : Value} {bs : List UInt8} : Bytes n₀ A v bs → Bytes n₀ B v bs
  | ⟨a, cap, e, hl, .inl e2⟩ => ⟨a, cap, e, hl, .inl e2⟩
  | ⟨a, cap, e, hl, .inr ⟨b, off, e2, hb, hc⟩⟩ => ⟨a, cap, e, hl, .inr ⟨b, off, e2, hb, fun j hj => (h.cell (p := ⟨b, off + j, none⟩) hb).trans (hc j hj)⟩⟩
def Parts (n₀ : Nat) (W : World) (a : Option Addr) (bss : List (List UInt8)) : Prop :=
  bss.length ≤ 9223372036854775807 ∧ (bss = [] ∨ ∃ b off, a = some ⟨b, off, none⟩ ∧ b < n₀ ∧ ∀ i (h : i < bss.length), ∃ v, W.cell? ⟨b, off + i, none⟩ = some v ∧ Bytes n₀ W v bss[i])
theorem Parts.below {n₀ : Nat} {A B : World} (h : Below n₀ A B) {a : Option Addr} {bss : List (List UInt8)} : Parts n₀ A a bss → Parts n₀ B a bss
  | ⟨hl, .inl e2⟩ => ⟨hl, .inl e2⟩
  | ⟨hl, .inr ⟨b, off, e2, hb, hc⟩⟩ => ⟨hl, .inr ⟨b, off, e2, hb, fun j hj => let ⟨v, h1, h2⟩ := hc j hj; ⟨v, (h.cell (p := ⟨b, off + j, none⟩) hb).trans h1, h2.below h⟩⟩⟩
end Go.Proofs.Ythnnikhkmpafjaa
