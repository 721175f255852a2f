/-
  The law package's examples of check sums. No statement is proved here.
-/
import Derived.Test.YthnnikhkmpafjaaCrcD
namespace Go.Proofs.Ythnnikhkmpafjaa
open Go.RowKit Go.Shelf
theorem sum_a (w1 : World) (fr : Nat × Nat) : Calls Try.prog 9 #[.slice (some ⟨w1.heap.size + 1, 0, none⟩) 1 1] ((w1.alloc (.cells #[Value.int IntKind.u8 97] 5 fr)).alloc (.cells #[.slice (some ⟨w1.heap.size, 0, none⟩) 1 1] 22))
      fun e w' => e = .returned (.int .u32 3251651376) ∧ Below w1.heap.size w1 w' := by
  have s1 : U (cSum [97]) = 3251651376 := by decide +kernel
  have h := sum_one w1 [97] _ fr 1 rfl rfl (by decide)
  rw [s1] at h
  exact h
theorem sum_digits (w1 : World) (fr : Nat × Nat) : Calls Try.prog 9 #[.slice (some ⟨w1.heap.size + 1, 0, none⟩) 1 1] ((w1.alloc (.cells #[Value.int IntKind.u8 49, Value.int IntKind.u8 50, Value.int IntKind.u8 51, Value.int IntKind.u8 52, Value.int IntKind.u8 53, Value.int IntKind.u8 54, Value.int IntKind.u8 55, Value.int IntKind.u8 56, Value.int IntKind.u8 57] 5 fr)).alloc (.cells #[.slice (some ⟨w1.heap.size, 0, none⟩) 9 9] 22))
      fun e w' => e = .returned (.int .u32 3808858755) ∧ Below w1.heap.size w1 w' := by
  have s1 : U (cSum [49, 50, 51, 52, 53, 54, 55, 56, 57]) = 3808858755 := by decide +kernel
  have h := sum_one w1 [49, 50, 51, 52, 53, 54, 55, 56, 57] _ fr 9 rfl rfl (by decide)
  rw [s1] at h
  exact h
set_option maxHeartbeats 1000000 in
theorem alive_any (w : World) : Calls Try.prog 11 #[] w fun e w' => e = .returned (.bool true) ∧ Below w.heap.size w w' := by
  have kc := fun (w : World) (C : Array Value) (n c : Nat) => Lib.run_convert_bytes_const (P := Try.prog) w 22 5 C n c Try.underlying22 Try.underlying5
  go_enter Try.func11, Try.ntmps11
  go_wp2_with (go_at_call 9; first | (with_reducible refine (sum_nil w).mono ?_; rintro e w1 ⟨rfl, hb1⟩) | (with_reducible refine (sum_a w1 _).mono ?_; rintro e w2 ⟨rfl, hb2⟩) | (with_reducible refine (sum_digits w2 _).mono ?_; rintro e w3 ⟨rfl, hb3⟩))
  go_ret
  exact ⟨rfl, hb1.trans ((hb2.mono hb1.size).trans (hb3.mono (Nat.le_trans hb1.size hb2.size)))⟩
end Go.Proofs.Ythnnikhkmpafjaa
