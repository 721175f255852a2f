/-
  CrcNames' own walk. No statement is proved here.
-/
import Derived.Test.YthnnikhkmpafjaaCrcF
namespace Go.Proofs.Ythnnikhkmpafjaa
open Go.RowKit Go.Shelf Go.Proofs.Ythnnikhkmpafjaa.PAll Go.Proofs.YthnnikhkmpafjaaW.PrintWords Go.Proofs.YthnnikhkmpafjaaW.PrintLast Go.Proofs.YthnnikhkmpafjaaW.PrintMore
theorem sum_zeros (w1 : World) (C : Array Value) (fr : Nat × Nat) (hC : C = byteCells (List.replicate 32 0)) : Calls Try.prog 9 #[.slice (some ⟨w1.heap.size + 1, 0, none⟩) 1 1] ((w1.alloc (.cells C 5 fr)).alloc (.cells #[.slice (some ⟨w1.heap.size, 0, none⟩) 32 32] 22))
      fun e w' => e = .returned (.int .u32 2324772522) ∧ Below w1.heap.size w1 w' := by
  have s1 : U (cSum (List.replicate 32 0)) = 2324772522 := by decide +kernel
  have h := sum_one w1 (List.replicate 32 0) C fr 32 hC rfl (by decide)
  rw [s1] at h
  exact h
theorem sum_two (w1 : World) (fr gr : Nat × Nat) :
    Calls Try.prog 9 #[.slice (some ⟨w1.heap.size + 2, 0, none⟩) 2 2] (((w1.alloc (.cells #[Value.int IntKind.u8 49, Value.int IntKind.u8 50, Value.int IntKind.u8 51, Value.int IntKind.u8 52] 5 fr)).alloc (.cells #[Value.int IntKind.u8 53, Value.int IntKind.u8 54, Value.int IntKind.u8 55, Value.int IntKind.u8 56, Value.int IntKind.u8 57] 5 gr)).alloc (.cells #[.slice (some ⟨w1.heap.size, 0, none⟩) 4 4, .slice (some ⟨w1.heap.size + 1, 0, none⟩) 5 5] 22))
      fun e w' => e = .returned (.int .u32 3808858755) ∧ Below w1.heap.size w1 w' := by
  have s1 : U (cSum [49, 50, 51, 52, 53, 54, 55, 56, 57]) = 3808858755 := by decide +kernel
  obtain ⟨V, hV⟩ : ∃ V, w1.alloc (.cells #[Value.int IntKind.u8 49, Value.int IntKind.u8 50, Value.int IntKind.u8 51, Value.int IntKind.u8 52] 5 fr) = V := ⟨_, rfl⟩
  have v1 : V.heap[w1.heap.size]? = some (.cells (byteCells [49, 50, 51, 52]) 5 fr) := by rw [← hV]; exact heap_alloc_new w1 _
  have vs : V.heap.size = w1.heap.size + 1 := by rw [← hV]; simp
  have hBV : Below w1.heap.size w1 V := by rw [← hV]; exact (Below.refl _ w1).alloc (Nat.le_refl _) _
  rw [hV]
  obtain ⟨X, hX⟩ : ∃ X, V.alloc (.cells #[Value.int IntKind.u8 53, Value.int IntKind.u8 54, Value.int IntKind.u8 55, Value.int IntKind.u8 56, Value.int IntKind.u8 57] 5 gr) = X := ⟨_, rfl⟩
  have x1 : X.heap[w1.heap.size]? = some (.cells (byteCells [49, 50, 51, 52]) 5 fr) := by rw [← hX, heap_alloc_old _ _ _ (by omega)]; exact v1
  have x2 : X.heap[w1.heap.size + 1]? = some (.cells (byteCells [53, 54, 55, 56, 57]) 5 gr) := by rw [← hX, ← vs]; exact heap_alloc_new V _
  have xs : X.heap.size = w1.heap.size + 2 := by rw [← hX]; simp [vs]
  have hBX : Below w1.heap.size w1 X := by rw [← hX]; exact hBV.alloc (by omega) _
  rw [hX]
  obtain ⟨W, hW⟩ : ∃ W, X.alloc (.cells #[.slice (some ⟨w1.heap.size, 0, none⟩) 4 4, .slice (some ⟨w1.heap.size + 1, 0, none⟩) 5 5] 22) = W := ⟨_, rfl⟩
  have y1 : W.heap[w1.heap.size]? = some (.cells (byteCells [49, 50, 51, 52]) 5 fr) := by rw [← hW, heap_alloc_old _ _ _ (by omega)]; exact x1
  have y2 : W.heap[w1.heap.size + 1]? = some (.cells (byteCells [53, 54, 55, 56, 57]) 5 gr) := by rw [← hW, heap_alloc_old _ _ _ (by omega)]; exact x2
  have y3 : W.heap[w1.heap.size + 2]? = some (.cells #[.slice (some ⟨w1.heap.size, 0, none⟩) 4 4, .slice (some ⟨w1.heap.size + 1, 0, none⟩) 5 5] 22 (0, 0)) := by rw [← hW, ← xs]; exact heap_alloc_new X _
  have ys : W.heap.size = w1.heap.size + 3 := by rw [← hW]; simp [xs]
  have hBW : Below w1.heap.size w1 W := by rw [← hW]; exact hBX.alloc (by omega) _
  rw [hW]
  have hP : Parts W.heap.size W (some ⟨w1.heap.size + 2, 0, none⟩) [[49, 50, 51, 52], [53, 54, 55, 56, 57]] := ⟨by simp, .inr ⟨_, 0, rfl, by omega, fun i hi => by
    have : i = 0 ∨ i = 1 := by simp at hi; omega
    rcases this with rfl | rfl
    · exact ⟨_, by rw [cell_of_row W _ _ _ _ _ y3]; rfl, Bytes.of_block (bs := [49, 50, 51, 52]) 4 (by omega) (by simp) y1⟩
    · exact ⟨_, by rw [cell_of_row W _ _ _ _ _ y3]; rfl, Bytes.of_block (bs := [53, 54, 55, 56, 57]) 5 (by omega) (by simp) y2⟩⟩⟩
  refine (sum_any _ 2 [[49, 50, 51, 52], [53, 54, 55, 56, 57]] W hP).mono ?_
  rintro e w' ⟨rfl, hb⟩
  exact ⟨by simp [s1], hBW.trans (hb.mono (by omega))⟩
theorem made32 (W : World) : Sem.run Try.prog (Instr.makeSlice 22 (.int .i64 32) (.int .i64 32)) W = .ok (.slice (some ⟨W.heap.size, 0, none⟩) 32 32) (W.alloc (.cells (byteCells (List.replicate 32 0)) 5)) := by
  obtain ⟨i, hi, hh⟩ := Option.map_eq_some_iff.mp info5
  simp only [Prod.mk.injEq] at hh
  obtain ⟨hz, hs, hb⟩ := hh
  have := run_makeSlice (P := Try.prog) (w := W) 22 5 i (.int .u8 0) Try.underlying22 hi hz .i64 .i64 32 32 (by omega) (by omega) (by rw [hs]; decide) (by rw [hb]; decide) (by omega)
  rw [hs, show Int.toNat 32 * 1 = 32 from rfl, show Int.toNat 32 = 32 from rfl, show madeCells (Value.int .u8 0).cells 32 = byteCells (List.replicate 32 0) by kernel_rfl] at this
  exact this
set_option maxHeartbeats 8000000 in
set_option maxRecDepth 100000 in
theorem names_any (w : World) : Calls Try.prog 7 #[] w fun e w' => e = .returned (.bool true) ∧ Below w.heap.size w w' := by
  have kc := fun (w : World) (C : Array Value) (n c : Nat) => Lib.run_convert_bytes_const (P := Try.prog) w 22 5 C n c Try.underlying22 Try.underlying5
  have kc2 : ∀ (w : World) (o : Obj) (C : Array Value) (n c : Nat), Sem.run Try.prog (convert 22 22 (Value.slice (some ⟨w.heap.size + 1, 0, none⟩) n c)) ((w.alloc o).alloc (Obj.cells C 5)) = Result.ok (Value.slice (some ⟨w.heap.size + 1, 0, none⟩) n c) ((w.alloc o).alloc (Obj.cells C 5 (C.size, C.size + 1))) := fun w o C n c => by
    have := kc (w.alloc o) C n c
    rw [show (w.alloc o).heap.size = w.heap.size + 1 by simp] at this
    exact this
  have m1 : crc_Move.f 80 2147483648 4 = some (2197175160, 0) := by decide +kernel
  have m2 : crc_Move.f 80 2147483648 1 = some (8388608, 0) := by decide +kernel
  have m3 : crc_Move.f 80 2147483648 0 = some (2147483648, 0) := by decide +kernel
  have m4 : crc_Move.f 80 1 (-1) = some (0, 2) := by decide +kernel
  have m5 : crc_Join.f 80 1 2 (-1) = some (0, 2) := by decide +kernel
  obtain ⟨Z, hZ⟩ : ∃ Z, Z = byteCells (List.replicate 32 0) := ⟨_, rfl⟩
  have km := made32
  rw [← hZ] at km
  have HZ := Aside0.mk hZ
  clear hZ
  have hB0 := Below.refl w.heap.size w
  go_enter Try.func7, Try.ntmps7
  go_wp2_with (first
    | (go_at_call 12; with_reducible refine (crc_Move.calls 80 2147483648 4 _ _ _ m1).mono ?_; rintro e w1 ⟨rfl, ⟨n1, rfl⟩⟩)
    | (go_at_call 12; with_reducible refine (crc_Move.calls 80 2147483648 1 _ _ _ m2).mono ?_; rintro e w2 ⟨rfl, ⟨n2, rfl⟩⟩)
    | (go_at_call 12; with_reducible refine (crc_Move.calls 80 2147483648 0 _ _ _ m3).mono ?_; rintro e w3 ⟨rfl, ⟨n3, rfl⟩⟩)
    | (go_at_call 12; with_reducible refine (crc_Move.calls 80 1 (-1) _ _ _ m4).mono ?_; rintro e w4 ⟨rfl, ⟨n4, rfl⟩⟩)
    | (go_at_call 14; with_reducible refine (crc_Join.calls 80 1 2 (-1) _ _ _ m5).mono ?_; rintro e w5 ⟨rfl, ⟨n5, rfl⟩⟩)
    | (go_at_call 9; with_reducible refine (sum_two _ _ _).mono ?_; rintro e w7 ⟨rfl, hb7⟩)
    | (go_at_call 9; refine (sum_zeros (w.drewN (n1 + n2 + n3 + n4 + n5)) Z _ HZ.out).mono ?_; rintro e w6 ⟨rfl, hb6⟩)
    | (go_at_call 11; with_reducible refine (alive_any _).mono ?_; rintro e w8 ⟨rfl, hb8⟩))
  go_ret
  have hd : Below w.heap.size w (w.drewN (n1 + n2 + n3 + n4 + n5)) := by apply pw_below_drewN; exact hB0
  have h6 : Below w.heap.size (w.drewN (n1 + n2 + n3 + n4 + n5)) w6 := hb6
  have s6 : w.heap.size ≤ w6.heap.size := h6.size
  exact ⟨rfl, hd.trans (h6.trans ((hb7.mono s6).trans (hb8.mono (Nat.le_trans s6 hb7.size))))⟩
end Go.Proofs.Ythnnikhkmpafjaa
