/-
  Arguments, opened by kinds: what is read of an argument is a value of the kind. No statement is proved here.
-/
import Derived.Test.YtidojlacnamabaaWArr
import Derived.OpenShut
import Derived.ChangeSame
import Derived.ChangeOld
import Derived.Deep.Slices
namespace Go.Proofs.Ytidojlacnamabaa
open Go.ChangeShapes Go.WideShapes Go.Deep Go.Proofs.YtidojlacnamabaaW.PrintWords
/-- What is read as a value of type t is one of kind d, of which ok holds. -/
def Opens {α : Type} (P : Program) (t : TypeId) (d : Kd α) (ok : α → Prop) : Prop :=
  ∀ {H : Type} {enc : TypeId × Value → H} {w : World} {base : Nat} {spare : Nat → Bool} {held : Bool} {fuel : Nat} {cs : List Value} {x : DataW H × List MemPlace},
    DataW.trod enc P w base spare held fuel t cs = some x → ∃ y, d.K w y cs ∧ ok y
section
variable {P : Program} {t : TypeId}
theorem opens_int {k : IntKind} (ht : P.underlying t = some (.int k)) : Opens P t (Kd.int k) (fun x => (Lit.int k x).wf = true) := by
  intro H enc w base spare held fuel cs x h
  obtain ⟨n, rfl, _, hw⟩ := DataW.trod_int ht h
  exact ⟨n, rfl, hw⟩
theorem opens_bool (ht : P.underlying t = some .bool) : Opens P t Kd.bool (fun _ => True) := by
  intro H enc w base spare held fuel cs x h
  obtain ⟨b, rfl, _⟩ := DataW.trod_bool ht h
  exact ⟨b, rfl, trivial⟩
theorem opens_string (ht : P.underlying t = some .string) : Opens P t Kd.string (fun s => s.size ≤ maxLen) := by
  intro H enc w base spare held fuel cs x h
  obtain ⟨s, rfl, _, hs⟩ := DataW.trod_string ht h
  exact ⟨s, rfl, hs⟩
theorem pick_list {α : Type} {q : Nat → α → Prop} : ∀ n : Nat, (∀ i, i < n → ∃ y, q i y) → ∃ l : List α, l.length = n ∧ ∀ (i : Nat) (y : α), l[i]? = some y → q i y
  | 0, _ => ⟨[], rfl, fun i y h => by simp at h⟩
  | n + 1, h => by
    obtain ⟨l, hl, hq⟩ := pick_list n (fun i hi => h i (by omega))
    obtain ⟨y, hy⟩ := h n (by omega)
    refine ⟨l ++ [y], by simp [hl], fun i z hz => ?_⟩
    rcases Nat.lt_or_ge i n with hi | hi
    · rw [List.getElem?_append_left (by omega)] at hz; exact hq i z hz
    · rw [List.getElem?_append_right (by omega), hl] at hz
      have : i - n = 0 := by
        rcases Nat.eq_zero_or_pos (i - n) with h0 | h0
        · exact h0
        · rw [List.getElem?_eq_none (by simp; omega)] at hz; cases hz
      rw [this] at hz
      simp at hz
      subst hz
      have : i = n := by omega
      subst this; exact hy
theorem opens_slice {α : Type} {d : Kd α} {ok : α → Prop} {e : TypeId} (ht : P.underlying t = some (.slice e)) (hC : P.cellsOf e = d.sz) (hd : Opens P e d ok) : Opens P t (Kd.slice e d) (fun xs => xs.length ≤ maxLen ∧ ∀ x ∈ xs, ok x) := by
  intro H enc w base spare held fuel cs x h
  rcases open_slice ht h with ⟨rfl, _⟩ | ⟨a, len, cap, m, n, D, Pl, rfl, _, hl, hm, hmm, _, hi⟩
  · exact ⟨[], ⟨none, 0, rfl, Nat.le_refl _, by refine ⟨rfl, by simp, fun h => absurd h (by simp)⟩⟩, by simp, fun x hx => by simp at hx⟩
  · have hlm : len ≤ m := by rw [hmm]; split <;> omega
    have hk : ∀ i, i < len → ∃ y, (∃ c, c.length = d.sz ∧ d.K w y c ∧ ∀ j u, c[j]? = some u → w.cell? (a.add (i * d.sz + j)) = some u) ∧ ok y := by
      intro i hil
      obtain ⟨cs', hc, ht'⟩ := hi i (by omega)
      obtain ⟨y, hy, hok⟩ := hd ht'
      rw [hC] at hc
      obtain ⟨_, hcl, hat⟩ := World.cells?_some hc
      refine ⟨y, ⟨cs', hcl, hy, fun j u hj => ?_⟩, hok⟩
      have hjl : j < d.sz := by rw [← hcl]; exact (List.getElem?_eq_some_iff.1 hj).1
      have := hat j hjl
      rw [Go.Deep.add_add] at this
      rw [this, hj]
    obtain ⟨ys, hyl, hys⟩ := pick_list len hk
    subst hyl
    refine ⟨ys, ⟨some a, cap, rfl, hl, rfl, by unfold maxLen at hm; omega, fun _ => ⟨a, rfl, fun j p hp => (hys j p hp).1⟩⟩, by omega, fun x hx => ?_⟩
    obtain ⟨j, hj, rfl⟩ := List.mem_iff_getElem.1 hx
    exact (hys j _ (List.getElem?_eq_getElem hj)).2
/-- The fields of a struct from one on, which begin at cell off. -/
def OpensF {α : Type} (P : Program) (fs : List Field) (off : Nat) (d : Kd α) (ok : α → Prop) : Prop :=
  ∀ {H : Type} {enc : TypeId × Value → H} {w : World} {base : Nat} {spare : Nat → Bool} {held : Bool} {fuel : Nat} {cs : List Value},
    (∀ f ∈ fs, ∃ x, DataW.trod enc P w base spare held fuel f.type ((cs.drop f.offset).take (P.cellsOf f.type)) = some x) → cs.length = off + d.sz → ∃ y, d.K w y (cs.drop off) ∧ ok y
theorem opensF_one {α : Type} {f : Field} {off : Nat} {d : Kd α} {ok : α → Prop} (ho : f.offset = off) (hC : P.cellsOf f.type = d.sz) (hd : Opens P f.type d ok) : OpensF P [f] off d ok := by
  intro H enc w base spare held fuel cs h hl
  obtain ⟨x, hx⟩ := h f (List.mem_singleton.2 rfl)
  obtain ⟨y, hy, hok⟩ := hd hx
  rw [ho, hC, List.take_of_length_le (by simp; omega)] at hy
  exact ⟨y, hy, hok⟩
theorem opensF_cons {α β : Type} {f : Field} {fs : List Field} {off : Nat} {a : Kd α} {b : Kd β} {oka : α → Prop} {okb : β → Prop} (ho : f.offset = off) (hC : P.cellsOf f.type = a.sz) (ha : Opens P f.type a oka) (hb : OpensF P fs (off + a.sz) b okb) :
    OpensF P (f :: fs) off (Kd.pair a b) (fun y => oka y.1 ∧ okb y.2) := by
  intro H enc w base spare held fuel cs h hl
  have hsz : (Kd.pair a b).sz = a.sz + b.sz := rfl
  rw [hsz] at hl
  obtain ⟨x, hx⟩ := h f (List.mem_cons_self ..)
  obtain ⟨y, hy, hok⟩ := ha hx
  rw [ho, hC] at hy
  obtain ⟨z, hz, hokz⟩ := hb (fun g hg => h g (List.mem_cons_of_mem _ hg)) (by omega)
  refine ⟨(y, z), ⟨(cs.drop off).take a.sz, cs.drop (off + a.sz), ?_, hy, hz⟩, hok, hokz⟩
  rw [← List.drop_drop, List.take_append_drop]
theorem opens_struct {α β : Type} {fs : Array Field} {d : Kd α} {ok : α → Prop} (f : β → α) (g : α → β) (hfg : ∀ x, f (g x) = x) (ht : P.underlying t = some (.struct fs)) (hC : P.cellsOf t = d.sz) (h : OpensF P fs.toList 0 d ok) :
    Opens P t (Kd.iso d f) (fun y => ok (f y)) := by
  intro H enc w base spare held fuel cs x hx
  obtain ⟨xs, n, _, _, hl, hn, hf⟩ := DataW.trod_struct ht hx
  obtain ⟨y, hy, hok⟩ := h (enc := enc) (w := w) (base := base) (spare := spare) (held := held) (fuel := n) (cs := cs) (fun fd hfd => by
    obtain ⟨i, hi, rfl⟩ := List.mem_iff_getElem.1 hfd
    have := hf i fs.toList[i] (by rw [Array.getElem?_eq_getElem (by simpa using hi)]; simp)
    have hi' : i < xs.length := by rw [hn]; simpa using hi
    rw [List.getElem?_eq_getElem hi'] at this
    exact ⟨_, this⟩) (by omega)
  exact ⟨g y, by show d.K w (f (g y)) cs; rw [hfg]; simpa using hy, by show ok (f (g y)); rw [hfg]; exact hok⟩
/-- A struct by its fields alone. -/
theorem opens_pairs {α : Type} {fs : Array Field} {d : Kd α} {ok : α → Prop} (ht : P.underlying t = some (.struct fs)) (hC : P.cellsOf t = d.sz) (h : OpensF P fs.toList 0 d ok) : Opens P t d ok := by
  intro H enc w base spare held fuel cs x hx
  exact opens_struct (β := α) id id (fun _ => rfl) ht hC h hx
theorem opens_array {α : Type} {n : Nat} {e : TypeId} {d : Kd α} {ok : α → Prop} (hs : 0 < d.sz) (ht : P.underlying t = some (.array n e)) (hC : P.cellsOf e = d.sz) (hCt : P.cellsOf t = n * d.sz) (hd : Opens P e d ok) : Opens P t (Kd.arr n d hs) (fun xs => ∀ x ∈ xs, ok x) := by
  intro H enc w base spare held fuel cs x hx
  obtain ⟨xs, m, _, _, hl, hn, hf⟩ := DataW.trod_array ht hx
  have hk : ∀ i, i < n → ∃ y, d.K w y ((cs.drop (i * d.sz)).take d.sz) ∧ ok y := by
    intro i hi
    have := hf i hi
    rw [List.getElem?_eq_getElem (by omega), hC] at this
    exact hd this
  obtain ⟨ys, hyl, hys⟩ := pick_list n hk
  refine ⟨ys, ⟨hyl, ?_, fun j p hp => (hys j p hp).1⟩, fun x hx => ?_⟩
  · rw [hl, hCt, hyl]
  · obtain ⟨j, hj, rfl⟩ := List.mem_iff_getElem.1 hx
    exact (hys j _ (List.getElem?_eq_getElem hj)).2
end
section
variable {H : Type} {enc : TypeId × Value → H} {P : Program} {w : World} {base : Nat} {spare : Nat → Bool} {held : Bool}
/-- An argument of a struct's or an array's type. -/
theorem opens_arg {α : Type} {t : TypeId} {d : Kd α} {ok : α → Prop} (hd : Opens P t d ok) {v : Value} {dv : DataW H} {p : List MemPlace} (h : DataW.Trod enc P w base spare held t v dv p) : ∃ y, d.K w y v.cells.toList ∧ ok y := by
  obtain ⟨fuel, hf⟩ := h
  exact hd hf
theorem agg_of_struct {r : Reach} {b0 : Nat} {t : TypeId} {fs : Array Field} {v : Value} (ht : P.underlying t = some (.struct fs)) (hv : Value.okWide P w r b0 t v) : ∃ cs, v = .agg cs := by
  obtain ⟨cs, h, _⟩ := okWide_struct ht hv
  exact ⟨cs, h⟩
theorem agg_of_array {r : Reach} {b0 n : Nat} {t e : TypeId} {v : Value} (ht : P.underlying t = some (.array n e)) (hv : Value.okWide P w r b0 t v) : ∃ cs, v = .agg cs := by
  simp only [Value.okWide, ht] at hv
  obtain ⟨cs, h1, _⟩ := hv
  exact ⟨cs, h1⟩
end
end Go.Proofs.Ytidojlacnamabaa
