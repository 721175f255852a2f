/- Check sums are the document's: the walk has shown it of all rows of bytes; here no more is asked than that bytes are bytes. No condition beyond the statement's own. -/
import Derived.Test.YthnnikhkmpafjaaPDivx1
namespace Go.Proofs.Ythnnikhkmpafjaa.Pure
open Go.RowKit Go.Proofs.Ythnnikhkmpafjaa Go.Proofs.Ythnnikhkmpafjaa.PDiv
theorem CrcDivides : bytebarnlaw03_CrcDivides.Pure := by
  intro l0 l1 _ _ h0 _ _ h1
  have key : ∀ l : List Int, (∀ x ∈ l, (Lit.int .u8 x).wf = true) → bytB l = true := fun l h => bytB_of fun x hx => by
    have := h x hx
    simp [Lit.wf, IntKind.min, IntKind.max, IntKind.bits, IntKind.signed] at this; omega
  unfold bytebarnlaw03_CrcDivides.f
  rw [if_pos ⟨key l0 h0, key l1 h1⟩]
end Go.Proofs.Ythnnikhkmpafjaa.Pure
