/- Read numbers agree with the reference reader at every byte row, place and width. No condition beyond the statement's own. -/
import Derived.Test.YtgnnalempnbjnaaLebZ
namespace Go.Proofs.Ytgnnalempnbjnaa.Pure
open Go.RowKit Go.Proofs.Ytgnnalempnbjnaa Go.Proofs.Ytgnnalempnbjnaa.PAll Go.Proofs.YtgnnalempnbjnaaW.PrintWords Go.Proofs.YtgnnalempnbjnaaW.PrintLast
theorem wfi {x : Int} (h : (Lit.int .i64 x).wf = true) : -9223372036854775808 ≤ x ∧ x < 9223372036854775808 := by
  simp [Lit.wf, IntKind.min, IntKind.max, IntKind.bits, IntKind.signed] at h; omega
theorem wfb {l : List Int} (h : ∀ x ∈ l, (Lit.int .u8 x).wf = true) : Byt l := fun x hx => by
  have := h x hx
  simp [Lit.wf, IntKind.min, IntKind.max, IntKind.bits, IntKind.signed] at this; omega

theorem LebGets : bytebarnlaw01_LebGets.Pure := by
  intro l a bits hl _ hb _ _
  refine ⟨60, ?_⟩
  unfold bytebarnlaw01_LebGets.f
  split
  · rfl
  · rw [show leb_GetU.f l a = lebGetUF l a from rfl, show leb_GetS.f l a bits = lebGetSF l a bits from rfl, lebGetUF_eq (wfb hb), lebGetSF_eq (wfb hb), refU_eq (wfb hb) hl a 60 (by omega), refS_eq (wfb hb) hl a bits 60 (by omega)]
    simp
end Go.Proofs.Ytgnnalempnbjnaa.Pure
