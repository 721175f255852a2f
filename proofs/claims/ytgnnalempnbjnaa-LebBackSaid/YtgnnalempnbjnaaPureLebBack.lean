/- What is written is read back from amid other bytes, and what is too wide is refused. No condition beyond the statement's own. -/
import Derived.Test.YtgnnalempnbjnaaLebZ
import Derived.Test.YtgnnalempnbjnaaPAllx5
namespace Go.Proofs.Ytgnnalempnbjnaa.Pure
open Go.RowKit Go.Proofs.Ytgnnalempnbjnaa Go.Proofs.Ytgnnalempnbjnaa.PAll Go.Proofs.YtgnnalempnbjnaaW.PrintWords Go.Proofs.YtgnnalempnbjnaaW.PrintLast
theorem wfi {x : Int} (h : (Lit.int .i64 x).wf = true) : -9223372036854775808 ≤ x ∧ x < 9223372036854775808 := by
  simp [Lit.wf, IntKind.min, IntKind.max, IntKind.bits, IntKind.signed] at h; omega
theorem wfb {l : List Int} (h : ∀ x ∈ l, (Lit.int .u8 x).wf = true) : Byt l := fun x hx => by
  have := h x hx
  simp [Lit.wf, IntKind.min, IntKind.max, IntKind.bits, IntKind.signed] at this; omega

theorem back_S (x : Int) (bits : Int) (u v : List Int) (hu : Byt u) (hv : Byt v) (hul : u.length ≤ 1000) (hvl : v.length ≤ 1000) (wx : -9223372036854775808 ≤ x ∧ x < 9223372036854775808) (b : Bool) (hb : bits = if b then 64 else 32) (k : Nat) (hk : 2 ≤ k) :
    bytebarnlaw01_LebBack.j3 k x b u v bits = some true := by
  obtain ⟨k, rfl⟩ : ∃ j, k = (j + 1) + 1 := ⟨k - 2, by omega⟩
  simp only [bytebarnlaw01_LebBack.j3]
  rcases S_spec x bits wx.1 wx.2 with ⟨hok, D, ⟨d1, d2, d3, d4, d5⟩, h1, _⟩ | ⟨hno, h1, _⟩
  · rw [h1, Option.bind_some]
    have hlen : (enc D).length ≤ 10 := by rw [enc_length]; exact d4
    have hg : lebGetSF (u ++ (enc D ++ v)) (u.length : Int) bits = some (x, (u.length : Int) + D.length, 0) := by
      rw [lebGetSF_eq (by
        intro y hy
        rcases List.mem_append.1 hy with h | h
        · exact hu y h
        rcases List.mem_append.1 h with h | h
        · exact enc_byt d2 y h
        · exact hv y h)]
      unfold gSb
      rcases hok with rfl | ⟨rfl, h⟩
      · rw [if_neg (by omega), if_pos rfl, gS_enc u v D 1 10 d1 d2 d4 (.inr ⟨rfl, rfl, by omega, by omega⟩), d3]
      · have := d5 4 (by simp; omega) (by simp; omega)
        rw [if_pos rfl, gS_enc u v D 8 5 d1 d2 (by omega) (.inl ⟨rfl, rfl, by omega, by omega⟩), d3]
    have hj : bytebarnlaw01_LebBack.j4 (k + 1) x u v bits (enc D) 0 false = some true := by
      simp only [bytebarnlaw01_LebBack.j4, Bool.false_eq_true, if_false, if_true, Option.bind_some, List.nil_append, List.length_nil, Nat.zero_add]
      rw [if_pos (by omega), if_pos (by omega), if_pos (by simp; omega), List.append_assoc, show leb_GetS.f _ _ bits = lebGetSF _ _ bits from rfl, hg]
      simp [enc_length]
      unfold wrap64; omega
    cases b with
    | true => rw [if_pos rfl]; exact hj
    | false =>
      rw [if_neg (by simp)]
      rw [if_neg (by simp)] at hb
      rcases hok with rfl | ⟨rfl, h⟩
      · omega
      · rw [if_pos (by omega), decide_eq_true h.2]; exact hj
  · rw [h1, Option.bind_some]
    have hj : bytebarnlaw01_LebBack.j4 (k + 1) x u v bits [] 2 false = some true := by
      simp [bytebarnlaw01_LebBack.j4]
    unfold okS at hno
    cases b with
    | true => rw [if_pos rfl] at hb; exact absurd (.inl hb) hno
    | false =>
      rw [if_neg (by simp)]
      rw [if_neg (by simp)] at hb
      split
      · rw [decide_eq_false (show ¬ x < 2147483648 by omega)]; exact hj
      · exact hj
theorem LebBack : bytebarnlaw01_LebBack.Pure := by
  intro x b u v hx _ _ hu _ _ hv
  refine ⟨60, ?_⟩
  have wx := wfi hx
  have bu := wfb hu
  have bv := wfb hv
  unfold bytebarnlaw01_LebBack.f
  rw [aliveT, Option.bind_some]
  split
  · simp [bytebarnlaw01_LebBack.j0]
  split
  · simp [bytebarnlaw01_LebBack.j0]
  rename_i hul hvl
  have main : ∀ bits : Int, bits = (if b then 64 else 32) → bytebarnlaw01_LebBack.j1 59 x b u v bits = some true := by
    intro bits hb
    have j3 := back_S x bits u v bu bv (by omega) (by omega) wx b hb 57 (by omega)
    simp only [bytebarnlaw01_LebBack.j1]
    rcases U_spec x wx.1 wx.2 with ⟨x0, x1, D, ⟨d1, d2, d3, d4, d5⟩, h1, _⟩ | ⟨hno, h1, _⟩
    · rw [h1, Option.bind_some, if_pos (by omega), decide_eq_true x1]
      have hlen : (enc D).length ≤ 5 := by rw [enc_length]; exact d4
      have hg : lebGetUF (u ++ (enc D ++ v)) (u.length : Int) = some (x, (u.length : Int) + D.length, 0) := by
        rw [lebGetUF_eq (by
          intro y hy
          rcases List.mem_append.1 hy with h | h
          · exact bu y h
          rcases List.mem_append.1 h with h | h
          · exact enc_byt d2 y h
          · exact bv y h), gU_enc u v D d1 d2 d4 (by omega), d3]
      show bytebarnlaw01_LebBack.j2 58 x b u v bits (enc D) 0 false = some true
      simp only [bytebarnlaw01_LebBack.j2, Bool.false_eq_true, if_false, if_true, Option.bind_some, List.nil_append, List.length_nil, Nat.zero_add]
      rw [if_pos (by omega), if_pos (by omega), if_pos (by simp; omega), List.append_assoc, show leb_GetU.f _ _ = lebGetUF _ _ from rfl, hg]
      simp only [Option.bind_some, if_true, enc_length]
      rw [if_pos (by unfold wrap64; omega)]
      exact j3
    · rw [h1, Option.bind_some]
      have hj : bytebarnlaw01_LebBack.j2 58 x b u v bits [] 2 false = some true := by
        simp only [bytebarnlaw01_LebBack.j2, Bool.false_eq_true, if_false]
        rw [if_neg (by omega)]
        exact j3
      split
      · rw [decide_eq_false (show ¬ x < 4294967296 by omega)]; exact hj
      · exact hj
  simp only [bytebarnlaw01_LebBack.j0, Bool.not_true, Bool.false_eq_true, if_false]
  cases b with
  | true => rw [if_pos rfl]; exact main 64 rfl
  | false => rw [if_neg (by simp)]; exact main 32 rfl
end Go.Proofs.Ytgnnalempnbjnaa.Pure
