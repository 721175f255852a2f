/- Parts are cut anywhere: the walk has shown it of all rows of bytes; here no more is asked than that bytes are bytes. No condition beyond the statement's own. -/
import Derived.Test.YthnnikhkmpafjaaPCutx1
namespace Go.Proofs.Ythnnikhkmpafjaa.Pure
open Go.RowKit Go.Proofs.Ythnnikhkmpafjaa Go.Proofs.Ythnnikhkmpafjaa.PCut
theorem CrcCuts : bytebarnlaw03_CrcCuts.Pure := by
  intro l0 a1 _ _ h0 h1
  have hb : bytB l0 = true := bytB_of fun x hx => by
    have := h0 x hx
    simp [Lit.wf, IntKind.min, IntKind.max, IntKind.bits, IntKind.signed] at this; omega
  have ha : 0 ≤ a1 ∧ a1 < 65536 := by
    simp [Lit.wf, IntKind.min, IntKind.max, IntKind.bits, IntKind.signed] at h1; omega
  unfold bytebarnlaw03_CrcCuts.f
  rw [if_pos ⟨hb, ha⟩]
end Go.Proofs.Ythnnikhkmpafjaa.Pure
