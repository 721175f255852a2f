/-
  A memory as an argument, opened. No statement is proved here.
-/
import Derived.Test.YtidojlacnamabaaMemL
import Derived.Test.YtidojlacnamabaaOpens
namespace Go.Proofs.Ytidojlacnamabaa
open Go.RowKit Go.ChangeShapes Go.WideShapes Go.Proofs.Ytidojlacnamabaa.PAll Go.Proofs.YtidojlacnamabaaW.PrintWords
set_option maxRecDepth 100000 in
theorem opens40 : Opens Try.prog 40 k40 (fun c => (Lit.int .i64 c.f0).wf = true ∧ (Lit.int .u8 c.f1).wf = true) :=
  opens_struct (fun x : S40 => (x.f0, x.f1)) (fun y => ⟨y.1, y.2⟩) (fun _ => rfl) Try.underlying40 (by kernel_rfl) (opensF_cons rfl (by kernel_rfl) (opens_int Try.underlying3) (opensF_one rfl (by kernel_rfl) (opens_int Try.underlying5)))
set_option maxRecDepth 100000 in
theorem opens26 : Opens Try.prog 26 (Kd.pair Kd.bool (Kd.pair (Kd.int .i64) (Kd.pair (Kd.int .i64) (Kd.slice 40 k40)))) (fun y => True ∧ (Lit.int .i64 y.2.1).wf = true ∧ (Lit.int .i64 y.2.2.1).wf = true ∧ y.2.2.2.length ≤ maxLen ∧ ∀ c ∈ y.2.2.2, (Lit.int .i64 c.f0).wf = true ∧ (Lit.int .u8 c.f1).wf = true) :=
  opens_pairs Try.underlying26 (by kernel_rfl) (opensF_cons rfl (by kernel_rfl) (opens_bool Try.underlying4) (opensF_cons rfl (by kernel_rfl) (opens_int Try.underlying3) (opensF_cons rfl (by kernel_rfl) (opens_int Try.underlying3) (opensF_one rfl (by kernel_rfl) (opens_slice Try.underlying24 (by kernel_rfl) opens40)))))
set_option maxRecDepth 100000 in
theorem open_mem {H : Type} {enc : TypeId × Value → H} {w : World} {base b0 : Nat} {spare : Nat → Bool} {held : Bool} {r : Reach} {v : Value} {dv : DataW H} {ps : List MemPlace} (hv : Value.okWide Try.prog w r b0 26 v) (ht : DataW.Trod enc Try.prog w base spare held 26 v dv ps) :
    ∃ (h : Bool) (p m : Int) (A : Option Addr) (c : Nat) (l : List S40), v = .agg #[.bool h, .int .i64 p, .int .i64 m, .slice A l.length c] ∧ l.length ≤ c ∧ Kd.C k40 w A l.length l ∧ (Lit.int .i64 p).wf = true ∧ (Lit.int .i64 m).wf = true ∧ ∀ c ∈ l, (Lit.int .i64 c.f0).wf = true ∧ (Lit.int .u8 c.f1).wf = true := by
  obtain ⟨⟨cs⟩, rfl⟩ := agg_of_struct Try.underlying26 hv
  obtain ⟨⟨h, p, m, l⟩, hK, hok⟩ := opens_arg opens26 ht
  obtain ⟨_, _, e0, rfl, _, _, rfl, rfl, _, _, rfl, rfl, A, c, rfl, hl, hC⟩ := hK
  simp only [Value.cells, List.cons_append, List.nil_append] at e0
  subst e0
  exact ⟨h, p, m, A, c, l, rfl, hl, hC, hok.2.1, hok.2.2.1, hok.2.2.2.2⟩
theorem wf64 {x : Int} (h : (Lit.int .i64 x).wf = true) : -9223372036854775808 ≤ x ∧ x ≤ 9223372036854775807 := by
  simp [Lit.wf, IntKind.min, IntKind.max, IntKind.bits, IntKind.signed] at h; omega
theorem wf8 {x : Int} (h : (Lit.int .u8 x).wf = true) : 0 ≤ x ∧ x < 256 := by
  simp [Lit.wf, IntKind.min, IntKind.max, IntKind.bits, IntKind.signed] at h; omega
end Go.Proofs.Ytidojlacnamabaa
