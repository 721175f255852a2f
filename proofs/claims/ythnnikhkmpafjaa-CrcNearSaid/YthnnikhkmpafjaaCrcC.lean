/-
  crc.Sum's contract in the printed texts' words. No statement is proved here.
-/
import Derived.Test.YthnnikhkmpafjaaCrcA
import Derived.Test.YthnnikhkmpafjaaWWords
namespace Go.Proofs.Ythnnikhkmpafjaa
open Go.RowKit Go.Proofs.YthnnikhkmpafjaaW.PrintWords
def u8 (x : Int) : UInt8 := UInt8.ofNat x.toNat
theorem u8_toNat {x : Int} (h0 : 0 ≤ x) (h1 : x < 256) : ((u8 x).toNat : Int) = x := by
  unfold u8; rw [UInt8.toNat_ofNat', Nat.mod_eq_of_lt (by omega)]; omega
theorem addr_plain {w : World} {ad : Addr} {v : Value} (h : w.cell? ad = some v) : ad = ⟨ad.block, ad.off, none⟩ := by
  obtain ⟨b, o, s⟩ := ad
  cases s with
  | none => rfl
  | some k =>
    simp only [World.cell?] at h
    split at h
    · simp at h
    · cases h
theorem Addr.plain_add (b o j : Nat) : (⟨b, o, none⟩ : Addr).add j = ⟨b, o + j, none⟩ := by unfold Addr.add; split <;> simp_all
theorem bytes_of_C {w : World} {A : Option Addr} {cap : Nat} {xs : List Int} (h : Kd.C (Kd.int .u8) w A xs.length xs) (hx : ∀ x ∈ xs, 0 ≤ x ∧ x < 256) : Bytes w.heap.size w (.slice A xs.length cap) (xs.map u8) := by
  obtain ⟨_, h1, h2⟩ := h
  refine ⟨A, cap, by simp, by simpa using h1, ?_⟩
  by_cases he : xs = []
  · exact .inl (by simp [he])
  · have hp : 0 < xs.length := List.length_pos_iff.2 he
    obtain ⟨ad, rfl, hc⟩ := h2 hp
    have key : ∀ j (hj : j < xs.length), w.cell? (ad.add j) = some (.int .u8 xs[j]) := fun j hj => by
      obtain ⟨c, _, hr, hcell⟩ := hc j xs[j] (List.getElem?_eq_getElem hj)
      have hr' : c = [.int .u8 xs[j]] := hr
      subst hr'
      have := hcell 0 (.int .u8 xs[j]) rfl
      simpa [Kd.int, Kd.scalar] using this
    have k0 := key 0 hp
    rw [show ad.add 0 = ad from rfl] at k0
    have ea := addr_plain k0
    refine .inr ⟨ad.block, ad.off, by rw [ea], block_lt_of_cell k0, fun j hj => ?_⟩
    have hj' : j < xs.length := by simpa using hj
    have := key j hj'
    rw [ea, Addr.plain_add] at this
    rw [this]
    have hb := hx xs[j] (List.getElem_mem hj')
    simp [u8_toNat hb.1 hb.2]
def crcSumF (l : List (List Int)) : Option Int := if ∀ xs ∈ l, ∀ x ∈ xs, 0 ≤ x ∧ x < 256 then some (U (cSum (l.flatten.map u8))) else none
theorem parts_of_C {w : World} {A : Option Addr} {l : List (List Int)} (h : Kd.C (Kd.slice 5 (Kd.int .u8)) w A l.length l) (hx : ∀ xs ∈ l, ∀ x ∈ xs, 0 ≤ x ∧ x < 256) : Parts w.heap.size w A (l.map (·.map u8)) := by
  obtain ⟨_, h1, h2⟩ := h
  refine ⟨by simpa using h1, ?_⟩
  by_cases he : l = []
  · exact .inl (by simp [he])
  · have hp : 0 < l.length := List.length_pos_iff.2 he
    obtain ⟨ad, rfl, hc⟩ := h2 hp
    have key : ∀ j (hj : j < l.length), ∃ A2 c2, w.cell? (ad.add j) = some (.slice A2 l[j].length c2) ∧ Kd.C (Kd.int .u8) w A2 l[j].length l[j] := fun j hj => by
      obtain ⟨c, _, hr, hcell⟩ := hc j l[j] (List.getElem?_eq_getElem hj)
      obtain ⟨A2, c2, rfl, _, hC⟩ := hr
      have := hcell 0 _ rfl
      exact ⟨A2, c2, by simpa [Kd.slice] using this, hC⟩
    obtain ⟨_, _, k0, _⟩ := key 0 hp
    rw [show ad.add 0 = ad from rfl] at k0
    have ea := addr_plain k0
    refine .inr ⟨ad.block, ad.off, by rw [ea], block_lt_of_cell k0, fun j hj => ?_⟩
    have hj' : j < l.length := by simpa using hj
    obtain ⟨A2, c2, k1, hC⟩ := key j hj'
    rw [ea, Addr.plain_add] at k1
    refine ⟨_, k1, ?_⟩
    have := bytes_of_C (cap := c2) hC (hx _ (List.getElem_mem hj'))
    simpa using this
theorem crcSum_calls (A0 : Option Addr) (c0 : Nat) (l0 : List (List Int)) (r : Int) (w : World) (hr0 : Kd.C (Kd.slice 5 (Kd.int .u8)) w A0 l0.length l0) (h : crcSumF l0 = some r) :
    Calls Try.prog 9 #[.slice A0 l0.length c0] w fun e w' => e = .returned (.int .u32 r) ∧ Below w.heap.size w w' := by
  unfold crcSumF at h
  split at h
  · rename_i hx
    obtain rfl := Option.some.inj h
    have := sum_any A0 c0 (l0.map (·.map u8)) w (parts_of_C hr0 hx)
    rw [show (l0.map (·.map u8)).flatten = l0.flatten.map u8 by simp [List.map_flatten], List.length_map] at this
    exact this
  · cases h
end Go.Proofs.Ythnnikhkmpafjaa
