/- The named examples, by reckoning. No condition. -/
import Derived.Test.YtgnnalempnbjnaaLebZ
import Derived.Test.YtgnnalempnbjnaaPAllx4
namespace Go.Proofs.Ytgnnalempnbjnaa.Pure
open Go.RowKit Go.Proofs.Ytgnnalempnbjnaa Go.Proofs.Ytgnnalempnbjnaa.PAll Go.Proofs.YtgnnalempnbjnaaW.PrintWords Go.Proofs.YtgnnalempnbjnaaW.PrintLast
theorem wfi {x : Int} (h : (Lit.int .i64 x).wf = true) : -9223372036854775808 ≤ x ∧ x < 9223372036854775808 := by
  simp [Lit.wf, IntKind.min, IntKind.max, IntKind.bits, IntKind.signed] at h; omega
theorem wfb {l : List Int} (h : ∀ x ∈ l, (Lit.int .u8 x).wf = true) : Byt l := fun x hx => by
  have := h x hx
  simp [Lit.wf, IntKind.min, IntKind.max, IntKind.bits, IntKind.signed] at this; omega

theorem LebNames : bytebarnlaw01_LebNames.Pure := by
  unfold bytebarnlaw01_LebNames.Pure
  decide +kernel
end Go.Proofs.Ytgnnalempnbjnaa.Pure
