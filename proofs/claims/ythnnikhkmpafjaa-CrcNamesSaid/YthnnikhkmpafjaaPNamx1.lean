-- Written for this claim by a program of this session, out of the translation; not trusted: Lean checks it.
import Derived.Test.YthnnikhkmpafjaaPNamx0
namespace Go.Proofs.Ythnnikhkmpafjaa.PNam
open Go.RowKit Go.Proofs.YthnnikhkmpafjaaW.PrintWords Go.Proofs.YthnnikhkmpafjaaW.PrintLast Go.Proofs.YthnnikhkmpafjaaW.PrintMore
attribute [local go_sem] max2_int min2_int max_two min_two max_three min_three max_four min_four   -- for this text's walks alone
set_option linter.unusedVariables false
set_option linter.unusedSimpArgs false

-- NOT PRINTED: function 16 (crc_half)

-- NOT PRINTED: function 17 (crc_halves)

-- NOT PRINTED: function 9 (crc_Sum)

-- NOT PRINTED: function 11 (bytebarnlaw03_alive)







/-! ### bytebarnlaw03_CrcNames: function 7 -/
def bytebarnlaw03_CrcNames.f : Option Bool := some true
theorem bytebarnlaw03_CrcNames.calls (r : Bool) (w : World) (h : bytebarnlaw03_CrcNames.f = some r) :
    Calls Try.prog 7 #[] w fun e w' => e = .returned (.bool r) ∧ Below w.heap.size w w' := by
  obtain rfl := Option.some.inj h
  exact names_any w
/-- THE ONE PURE STATEMENT of bytebarnlaw03_CrcNames: yours. -/
def bytebarnlaw03_CrcNames.Pure : Prop := bytebarnlaw03_CrcNames.f  = some true
theorem bytebarnlaw03_CrcNames.walk (P : bytebarnlaw03_CrcNames.Pure)  (w : World)  :
    Calls Try.prog 7 #[] w fun e w' => e = .returned (.bool true) ∧ Below w.heap.size w w' := by
  have h := P  
  refine (bytebarnlaw03_CrcNames.calls  true w h).mono ?_
  rintro e w' ⟨rfl, hd⟩
  exact ⟨rfl, hd⟩


end Go.Proofs.Ythnnikhkmpafjaa.PNam
