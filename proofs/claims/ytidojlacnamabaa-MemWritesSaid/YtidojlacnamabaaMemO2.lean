/-
  A slice of bytes as an argument, opened. No statement is proved here.
-/
import Derived.Test.YtidojlacnamabaaMemO
namespace Go.Proofs.Ytidojlacnamabaa
open Go.RowKit Go.ChangeShapes Go.WideShapes Go.Proofs.Ytidojlacnamabaa.PAll Go.Proofs.YtidojlacnamabaaW.PrintWords
set_option maxRecDepth 100000 in
theorem opens32 : Opens Try.prog 32 (Kd.slice 5 (Kd.int .u8)) (fun xs => xs.length ≤ maxLen ∧ ∀ x ∈ xs, (Lit.int .u8 x).wf = true) :=
  opens_slice Try.underlying32 (by kernel_rfl) (opens_int Try.underlying5)
set_option maxRecDepth 100000 in
theorem open_bytes {H : Type} {enc : TypeId × Value → H} {w : World} {base b0 : Nat} {spare : Nat → Bool} {held : Bool} {r : Reach} {v : Value} {dv : DataW H} {ps : List MemPlace} (hv : Value.okWide Try.prog w r b0 32 v) (ht : DataW.Trod enc Try.prog w base spare held 32 v dv ps) :
    ∃ (A : Option Addr) (c : Nat) (l : List Int), v = .slice A l.length c ∧ l.length ≤ c ∧ Kd.C (Kd.int .u8) w A l.length l ∧ ∀ x ∈ l, (Lit.int .u8 x).wf = true := by
  obtain ⟨a0, len0, cap0, rfl⟩ := okWide_slice Try.underlying32 hv
  obtain ⟨l, ⟨A, c, e, hl, hC⟩, hok⟩ := opens_arg opens32 ht
  simp only [Value.cells] at e
  have e := List.singleton_inj.1 e
  rw [e]
  exact ⟨A, c, l, rfl, hl, hC, hok.2⟩
end Go.Proofs.Ytidojlacnamabaa
