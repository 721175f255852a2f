-- Written for this claim by a program of this session, out of the translation; not trusted: Lean checks it.
import Derived.Test.YtidojlacnamabaaPNamx0
namespace Go.Proofs.Ytidojlacnamabaa.PNam
open Go.RowKit Go.Proofs.YtidojlacnamabaaW.PrintWords Go.Proofs.YtidojlacnamabaaW.PrintLast Go.Proofs.YtidojlacnamabaaW.PrintMore
attribute [local go_sem] max2_int min2_int max_two min_two max_three min_three max_four min_four   -- for this text's walks alone
set_option linter.unusedVariables false
set_option linter.unusedSimpArgs false



-- NOT PRINTED: function 36 (api_Cell_36)

-- NOT PRINTED: function 14 (mem_Twin)



-- NOT PRINTED: function 22 (typed_Access)







-- NOT PRINTED: function 38 (mem_asked)

-- NOT PRINTED: function 59 (api_Cell_int)

-- NOT PRINTED: function 50 (mem_place)

-- NOT PRINTED: function 61 (api_Cell_61)

-- NOT PRINTED: function 51 (api_Cell_51)

-- NOT PRINTED: function 40 (mem_with)

-- NOT PRINTED: function 19 (mem_Store)

-- NOT PRINTED: function 32 (mem_some)

-- NOT PRINTED: function 41 (mem_signs)

-- NOT PRINTED: function 20 (mem_Load)

-- NOT PRINTED: function 18 (bytebarnlaw13_alive)

-- NOT PRINTED: function 25 (mem_Grow)

/-! ### bytebarnlaw13_MemNames: function 7 -/
def bytebarnlaw13_MemNames.f : Option Bool := some true
theorem bytebarnlaw13_MemNames.calls (r : Bool) (w : World) (h : bytebarnlaw13_MemNames.f = some r) :
    Calls Try.prog 7 #[] w fun e w' => e = .returned (.bool r) ∧ Below w.heap.size w w' := by
  obtain rfl := Option.some.inj h
  exact memNames_any w
/-- THE ONE PURE STATEMENT of bytebarnlaw13_MemNames: yours. -/
def bytebarnlaw13_MemNames.Pure : Prop := bytebarnlaw13_MemNames.f  = some true
theorem bytebarnlaw13_MemNames.walk (P : bytebarnlaw13_MemNames.Pure)  (w : World)  :
    Calls Try.prog 7 #[] w fun e w' => e = .returned (.bool true) ∧ Below w.heap.size w w' := by
  have h := P  
  refine (bytebarnlaw13_MemNames.calls  true w h).mono ?_
  rintro e w' ⟨rfl, hd⟩
  exact ⟨rfl, hd⟩


end Go.Proofs.Ytidojlacnamabaa.PNam
