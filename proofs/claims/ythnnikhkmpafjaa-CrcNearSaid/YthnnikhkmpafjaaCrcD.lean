/-
  Check sums of literals. No statement is proved here.
-/
import Derived.Test.YthnnikhkmpafjaaCrcC
import Derived.Lib.SmallJoins
import Derived.Lib.SlBytesConst
namespace Go.Proofs.Ythnnikhkmpafjaa
open Go.RowKit Go.Shelf
theorem Parts.nil (n : Nat) (w : World) (a : Option Addr) : Parts n w a [] := ⟨by simp, .inl rfl⟩
def byteCells (bs : List UInt8) : Array Value := (bs.map (fun c => Value.int .u8 (c.toNat : Int))).toArray
theorem Bytes.of_block {n₀ : Nat} {W : World} {b : Nat} {bs : List UInt8} {t : TypeId} {fr : Nat × Nat} (cap : Nat) (hb : b < n₀) (hl : bs.length ≤ 9223372036854775807) (h : W.heap[b]? = some (.cells (byteCells bs) t fr)) : Bytes n₀ W (.slice (some ⟨b, 0, none⟩) bs.length cap) bs :=
  ⟨_, cap, rfl, hl, .inr ⟨b, 0, rfl, hb, fun j hj => by rw [cell_of_row W b (0 + j) _ t fr h]; simp [byteCells, hj]⟩⟩
theorem sum_one (w1 : World) (bs : List UInt8) (C : Array Value) (fr : Nat × Nat) (n : Nat) (hC : C = byteCells bs) (hn : n = bs.length) (hl : bs.length ≤ 9223372036854775807) :
    Calls Try.prog 9 #[.slice (some ⟨w1.heap.size + 1, 0, none⟩) 1 1] ((w1.alloc (.cells C 5 fr)).alloc (.cells #[.slice (some ⟨w1.heap.size, 0, none⟩) n n] 22))
      fun e w' => e = .returned (.int .u32 (U (cSum bs))) ∧ Below w1.heap.size w1 w' := by
  subst hC hn
  obtain ⟨W, hW⟩ : ∃ W, (w1.alloc (.cells (byteCells bs) 5 fr)).alloc (.cells #[.slice (some ⟨w1.heap.size, 0, none⟩) bs.length bs.length] 22) = W := ⟨_, rfl⟩
  have h1 : W.heap[w1.heap.size]? = some (.cells (byteCells bs) 5 fr) := by rw [← hW]; exact heap_alloc2_old w1 _ _
  have h2 : W.heap[w1.heap.size + 1]? = some (.cells #[.slice (some ⟨w1.heap.size, 0, none⟩) bs.length bs.length] 22 (0, 0)) := by rw [← hW]; exact heap_alloc2_new w1 _ _
  have hs : W.heap.size = w1.heap.size + 2 := by rw [← hW]; simp
  have hB : Below w1.heap.size w1 W := by rw [← hW]; exact ((Below.refl _ w1).alloc (Nat.le_refl _) _).alloc (by simp) _
  rw [hW]
  have hP : Parts W.heap.size W (some ⟨w1.heap.size + 1, 0, none⟩) [bs] := ⟨by simp, .inr ⟨_, 0, rfl, by omega, fun i hi => by
    obtain rfl : i = 0 := by simpa using hi
    exact ⟨_, by rw [cell_of_row W _ _ _ _ _ h2]; rfl, Bytes.of_block _ (by omega) hl h1⟩⟩⟩
  refine (sum_any _ 1 [bs] W hP).mono ?_
  rintro e w' ⟨rfl, hb⟩
  exact ⟨by simp, hB.trans (hb.mono (by omega))⟩
theorem sum_nil (w : World) : Calls Try.prog 9 #[.slice none 0 0] w fun e w' => e = .returned (.int .u32 0) ∧ Below w.heap.size w w' := by
  have s0 : U (cSum (List.flatten [])) = 0 := by decide +kernel
  refine (sum_any none 0 [] w (Parts.nil _ _ _)).mono ?_
  rw [s0]
  exact fun _ _ h => h
end Go.Proofs.Ythnnikhkmpafjaa
