/- Written numbers agree with the reference writer, and a changed answer does not change the next one. No condition. -/
import Derived.Test.YtgnnalempnbjnaaLebZ
import Derived.Test.YtgnnalempnbjnaaPAllx1
namespace Go.Proofs.Ytgnnalempnbjnaa.Pure
open Go.RowKit Go.Proofs.Ytgnnalempnbjnaa Go.Proofs.Ytgnnalempnbjnaa.PAll Go.Proofs.YtgnnalempnbjnaaW.PrintWords Go.Proofs.YtgnnalempnbjnaaW.PrintLast
theorem wfi {x : Int} (h : (Lit.int .i64 x).wf = true) : -9223372036854775808 ≤ x ∧ x < 9223372036854775808 := by
  simp [Lit.wf, IntKind.min, IntKind.max, IntKind.bits, IntKind.signed] at h; omega
theorem wfb {l : List Int} (h : ∀ x ∈ l, (Lit.int .u8 x).wf = true) : Byt l := fun x hx => by
  have := h x hx
  simp [Lit.wf, IntKind.min, IntKind.max, IntKind.bits, IntKind.signed] at this; omega

theorem puts_l (x0 e : Int) (x7 : List Int) (x13 : Bool) (hx : leb_U.f x0 = some (x7, e)) (h13 : x13 = true) : ∀ (j k : Nat) (x5 : List Int) (i : Int), x5.length ≤ 10 → 0 ≤ i → (x5.length : Int) - i = j → j + 1 ≤ k →
    bytebarnlaw01_LebPuts.l0 k x0 x5 x7 x13 i = some true := by
  intro j
  induction j with
  | zero =>
    intro k x5 i _ _ h2 hk
    obtain ⟨k, rfl⟩ : ∃ i, k = i + 1 := ⟨k - 1, by omega⟩
    simp only [bytebarnlaw01_LebPuts.l0]
    rw [if_neg (by omega), hx, Option.bind_some, if_pos h13]
    simp
  | succ j ih =>
    intro k x5 i h0 h1 h2 hk
    obtain ⟨k, rfl⟩ : ∃ i, k = i + 1 := ⟨k - 1, by omega⟩
    simp only [bytebarnlaw01_LebPuts.l0]
    have hw : wrap64 (i + 1) = i + 1 := by unfold wrap64; omega
    rw [if_pos (by omega), if_pos h1, hw]
    exact ih k _ _ (by simpa using h0) (by omega) (by simp; omega) (by omega)
theorem LebPuts : bytebarnlaw01_LebPuts.Pure := by
  intro x bits hx _
  refine ⟨60, ?_⟩
  have wx := wfi hx
  have hU : ∃ r e, leb_U.f x = some (r, e) ∧ bytebarnref01_U.f 60 x = some (r, e) ∧ r.length ≤ 10 := by
    rcases U_spec x wx.1 wx.2 with ⟨_, _, D, hD, h1, h2⟩ | ⟨_, h1, h2⟩
    · exact ⟨_, _, h1, h2 60 (by omega), by rw [enc_length]; have := hD.2.2.2.1; omega⟩
    · exact ⟨_, _, h1, h2 60, by simp⟩
  have hS : ∃ r e, leb_S.f x bits = some (r, e) ∧ bytebarnref01_S.f 60 x bits = some (r, e) := by
    rcases S_spec x bits wx.1 wx.2 with ⟨_, D, hD, h1, h2⟩ | ⟨_, h1, h2⟩
    · exact ⟨_, _, h1, h2 60 (by omega)⟩
    · exact ⟨_, _, h1, h2 60⟩
  obtain ⟨r, e, u1, u2, u3⟩ := hU
  obtain ⟨s, f, s1, s2⟩ := hS
  unfold bytebarnlaw01_LebPuts.f
  rw [u1, u2, s1, s2]
  simp only [Option.bind_some, if_true, beq_self_eq_true]
  simp only [bytebarnlaw01_LebPuts.j0]
  exact puts_l x e r true u1 rfl r.length 59 r 0 u3 (by omega) (by omega) (by omega)
end Go.Proofs.Ytgnnalempnbjnaa.Pure
