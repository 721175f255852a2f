/-
  An array of whole numbers as an argument. No statement is proved here.
-/
import Derived.OpenShut
import Derived.ChangeSame
import Derived.ChangeOld
namespace Go.Proofs.Ythnnikhkmpafjaa
open Go.ChangeShapes Go.WideShapes
variable {H : Type} {enc : TypeId × Value → H} {P : Program} {w : World} {base : Nat} {spare : Nat → Bool} {held : Bool}
theorem open_array_ints {r : Reach} {b0 n : Nat} {t e : TypeId} {k : IntKind} {v : Value} {d : DataW H} {p : List MemPlace} (ht : P.underlying t = some (.array n e)) (he : P.underlying e = some (.int k)) (hce : P.cellsOf e = 1) (hC : P.cellsOf t = n)
    (hv : Value.okWide P w r b0 t v) (h : DataW.Trod enc P w base spare held t v d p) : ∃ zs : List Int, v = .agg (zs.map (Value.int k)).toArray ∧ zs.length = n ∧ ∀ z ∈ zs, (Lit.int k z).wf = true := by
  obtain ⟨cs, rfl, hsz⟩ : ∃ cs, v = .agg cs ∧ cs.size = P.cellsOf t := by
    simp only [Value.okWide, ht] at hv
    obtain ⟨cs, h1, h2, _⟩ := hv
    exact ⟨cs, h1, h2⟩
  obtain ⟨l⟩ := cs
  rw [hC] at hsz
  obtain ⟨fuel, hf⟩ := h
  have key : ∀ i, i < n → ∃ z, l[i]? = some (.int k z) ∧ (Lit.int k z).wf = true := by
    intro i hi
    obtain ⟨xs, m, _, _, _, hlen, hg⟩ := DataW.trod_array ht hf
    have hgi := hg i hi
    have hxi : xs[i]? = some (xs[i]'(by omega)) := List.getElem?_eq_getElem (by omega)
    rw [hxi, hce, Nat.mul_one] at hgi
    obtain ⟨z, hz, _, hw⟩ := DataW.trod_int he hgi
    refine ⟨z, ?_, hw⟩
    have := congrArg (fun q => q[0]?) hz
    simp only [Value.cells, List.getElem?_cons_zero, List.getElem?_take, List.getElem?_drop] at this
    simpa using this
  refine ⟨l.map (fun v => match v with | .int _ z => z | _ => 0), ?_, by simpa using hsz, ?_⟩
  · congr 2
    apply List.ext_getElem?
    intro i
    rcases Nat.lt_or_ge i n with hi | hi
    · obtain ⟨z, hz, _⟩ := key i hi
      simp [hz]
    · have : l.length ≤ i := by simp at hsz; omega
      rw [List.getElem?_eq_none this, List.getElem?_eq_none (by simpa using this)]
  · intro z hz
    rw [List.mem_map] at hz
    obtain ⟨v, hv', rfl⟩ := hz
    obtain ⟨i, hi, rfl⟩ := List.mem_iff_getElem.1 hv'
    obtain ⟨z, hz, hw⟩ := key i (by simp at hsz; omega)
    rw [List.getElem?_eq_getElem hi] at hz
    rw [Option.some.inj hz]
    exact hw
end Go.Proofs.Ythnnikhkmpafjaa
