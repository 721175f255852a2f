-- Written for this claim by a program of this session, out of the translation; not trusted: Lean checks it.
import Derived.Test.YthnnikhkmpafjaaPCutx0
namespace Go.Proofs.Ythnnikhkmpafjaa.PCut
open Go.RowKit Go.Proofs.YthnnikhkmpafjaaW.PrintWords Go.Proofs.YthnnikhkmpafjaaW.PrintLast Go.Proofs.YthnnikhkmpafjaaW.PrintMore
attribute [local go_sem] max2_int min2_int max_two min_two max_three min_three max_four min_four   -- for this text's walks alone
set_option linter.unusedVariables false
set_option linter.unusedSimpArgs false

-- NOT PRINTED: function 16 (crc_half)

-- NOT PRINTED: function 17 (crc_halves)

-- NOT PRINTED: function 9 (crc_Sum)

-- NOT PRINTED: function 11 (bytebarnlaw03_alive)







/-! ### bytebarnlaw03_CrcCuts: function 8 -/
def bytebarnlaw03_CrcCuts.f (l0 : List Int) (a1 : Int) : Option Bool := if bytB l0 = true ∧ 0 ≤ a1 ∧ a1 < 65536 then some true else none
theorem bytebarnlaw03_CrcCuts.calls (A0 : Option Addr) (c0 : Nat) (l0 : List Int) (a1 : Int) (r : Bool) (w : World) (hr0 : Kd.C (Kd.int .u8) w A0 l0.length l0) (hc0 : l0.length ≤ c0) (h : bytebarnlaw03_CrcCuts.f l0 a1 = some r) :
    Calls Try.prog 8 #[.slice A0 l0.length c0, .int .u16 a1] w fun e w' => e = .returned (.bool r) ∧ Below w.heap.size w w' := by
  unfold bytebarnlaw03_CrcCuts.f at h
  split at h
  · rename_i hx
    obtain rfl := Option.some.inj h
    exact cuts_any A0 c0 l0 a1 w hr0 hc0 (byt_of hx.1) hx.2.1 hx.2.2
  · cases h
/-- THE ONE PURE STATEMENT of bytebarnlaw03_CrcCuts: yours. -/
def bytebarnlaw03_CrcCuts.Pure : Prop := ∀ (l0 : List Int) (a1 : Int), l0.length ≤ maxLen → l0.length * 1 ≤ 140737488351232 → (∀ x ∈ l0, (Lit.int .u8 x).wf = true) → (Lit.int .u16 a1).wf = true → bytebarnlaw03_CrcCuts.f l0 a1 = some true
theorem bytebarnlaw03_CrcCuts.walk (P : bytebarnlaw03_CrcCuts.Pure) (a0 : Option Addr) (len0 cap0 : Nat) (z0 : List Int) (a1 : Int) (w : World) (w0 : (a0 = none ∧ len0 = 0 ∧ cap0 = 0 ∧ z0 = []) ∨ ∃ x, a0 = some x ∧ len0 ≤ cap0 ∧ cap0 ≤ maxLen ∧ z0.length = cap0 ∧ (∀ i, i < z0.length → w.cell? (x.add i) = some (.int .u8 (z0.getD i 0))) ∧ ∀ n ∈ z0, (Lit.int .u8 n).wf = true) (y0 : len0 * 1 ≤ 140737488351232) (w1 : (Lit.int .u16 a1).wf = true) :
    Calls Try.prog 8 #[.slice a0 len0 cap0, .int .u16 a1] w fun e w' => e = .returned (.bool true) ∧ Below w.heap.size w w' := by
  obtain ⟨l0, rfl, hr0, hm0, hw0, hc0⟩ := ReadsInt.ofRowC w0
  have h := P l0 a1 hm0 y0 hw0 w1
  refine (bytebarnlaw03_CrcCuts.calls _ _ l0 a1 true w (Kd.C_of_reads (d := (0 : Int)) (h1 := fun _ => rfl) hr0) hc0 h).mono ?_
  rintro e w' ⟨rfl, hd⟩
  exact ⟨rfl, hd⟩


end Go.Proofs.Ythnnikhkmpafjaa.PCut
