/-
  No cell of these rows narrows 'for every input' (looked for: loops, veiled, ifaces, maps, wideKeys, modest, calm, conditions, laid).
  DERIVED. THE GIVEN ROWS OF THIS SEAT. 6 by the template 'for every input the law returns true; each argument reads behind the call as it read before'; 0 by the template 'total and deterministic' (their statements: YthnnikhkmpafjaaTotals.lean).
  GIVEN WITH THE SEED: the statements are not yours to turn. If you find one false, say at which input.
  Laid BY PROGRAM, IN A SANDBOX (cutbox-rows.mjs): the forced cells as the released guide's own fill.sh prints them over the translation 9b0075affc19dc48… (all of the seat's roots in one cut). By AI agents, Wed Nov 11 2026. No macro, syntax, notation, axiom, sorry.
-/
import Derived.Test.YthnnikhkmpafjaaChecked
import GoSem.Claim
import GoSem.ClaimJoined
import GoSem.ClaimMapViews
import Derived.JoinedTies
import Derived.KernelRfl
namespace Go.Proofs.Ythnnikhkmpafjaa
/- THE CELL 'sum', in the pinned program and in every row, IS THE sha256 OF THE DUMP (.gsa) THAT YthnnikhkmpafjaaProg.lean LOADS. Nothing in Lean hashes anything: it is a label: what it is worth is what the hold of that sum in a sandbox is worth. -/
noncomputable def Try.pinned : Pinned := { name := "ythnnikhkmpafjaa", sum := "9b0075affc19dc48ccfa7e09300293890b90a524ec9d07660b5a2aa7ea7998df", checked := Try.checked }
namespace Rows
def none {H : Type} : Left H := { results := [], args := [] }

/-- 'bytebarnlaw03.CrcDivides': WHATEVER THE INPUT: true; the input reads as it did. -/
def crcDividesSpec : ChangeSpec := { name := "crcDivides", fn := fun _ => fun
  | [d1, d2] => { results := [.lit (.bool true)], args := [d1, d2] }
  | _ => none }
def crcDividesRow : OpenClaim := { program := "ythnnikhkmpafjaa", sum := "9b0075affc19dc48ccfa7e09300293890b90a524ec9d07660b5a2aa7ea7998df", func := "bytebarn/bytebarnlaw03.CrcDivides", spec := "crcDivides", unfollowed := true, recurses := true, apart := false }
def CrcDividesSaid : Prop := crcDividesRow.holds Try.pinned (OpenSpec.ofChange crcDividesSpec)

/-- ITS FALSE NEIGHBOUR: 'it returns false'. Refute it at one input. -/
def crcDividesWrong : ChangeSpec := { name := "crcDivides", fn := fun _ => fun
  | [d1, d2] => { results := [.lit (.bool false)], args := [d1, d2] }
  | _ => none }
def CrcDividesWrongFalsely : Prop := crcDividesRow.holds Try.pinned (OpenSpec.ofChange crcDividesWrong)

/-- 'bytebarnlaw03.CrcNear': WHATEVER THE INPUT: true; the input reads as it did. -/
def crcNearSpec : ChangeSpec := { name := "crcNear", fn := fun _ => fun
  | [d1, d2, d3] => { results := [.lit (.bool true)], args := [d1, d2, d3] }
  | _ => none }
def crcNearRow : OpenClaim := { program := "ythnnikhkmpafjaa", sum := "9b0075affc19dc48ccfa7e09300293890b90a524ec9d07660b5a2aa7ea7998df", func := "bytebarn/bytebarnlaw03.CrcNear", spec := "crcNear", unfollowed := true, recurses := true, apart := false }
def CrcNearSaid : Prop := crcNearRow.holds Try.pinned (OpenSpec.ofChange crcNearSpec)

/-- ITS FALSE NEIGHBOUR: 'it returns false'. Refute it at one input. -/
def crcNearWrong : ChangeSpec := { name := "crcNear", fn := fun _ => fun
  | [d1, d2, d3] => { results := [.lit (.bool false)], args := [d1, d2, d3] }
  | _ => none }
def CrcNearWrongFalsely : Prop := crcNearRow.holds Try.pinned (OpenSpec.ofChange crcNearWrong)

/-- 'bytebarnlaw03.CrcMoves': WHATEVER THE INPUT: true; the input reads as it did. -/
def crcMovesSpec : ChangeSpec := { name := "crcMoves", fn := fun _ => fun
  | [d1, d2, d3] => { results := [.lit (.bool true)], args := [d1, d2, d3] }
  | _ => none }
def crcMovesRow : OpenClaim := { program := "ythnnikhkmpafjaa", sum := "9b0075affc19dc48ccfa7e09300293890b90a524ec9d07660b5a2aa7ea7998df", func := "bytebarn/bytebarnlaw03.CrcMoves", spec := "crcMoves", apart := false }
def CrcMovesSaid : Prop := crcMovesRow.holds Try.pinned (OpenSpec.ofChange crcMovesSpec)

/-- ITS FALSE NEIGHBOUR: 'it returns false'. Refute it at one input. -/
def crcMovesWrong : ChangeSpec := { name := "crcMoves", fn := fun _ => fun
  | [d1, d2, d3] => { results := [.lit (.bool false)], args := [d1, d2, d3] }
  | _ => none }
def CrcMovesWrongFalsely : Prop := crcMovesRow.holds Try.pinned (OpenSpec.ofChange crcMovesWrong)

/-- 'bytebarnlaw03.CrcOn': WHATEVER THE INPUT: true; the input reads as it did. -/
def crcOnSpec : ChangeSpec := { name := "crcOn", fn := fun _ => fun
  | [d1, d2, d3, d4] => { results := [.lit (.bool true)], args := [d1, d2, d3, d4] }
  | _ => none }
def crcOnRow : OpenClaim := { program := "ythnnikhkmpafjaa", sum := "9b0075affc19dc48ccfa7e09300293890b90a524ec9d07660b5a2aa7ea7998df", func := "bytebarn/bytebarnlaw03.CrcOn", spec := "crcOn", unfollowed := true, recurses := true, apart := false }
def CrcOnSaid : Prop := crcOnRow.holds Try.pinned (OpenSpec.ofChange crcOnSpec)

/-- ITS FALSE NEIGHBOUR: 'it returns false'. Refute it at one input. -/
def crcOnWrong : ChangeSpec := { name := "crcOn", fn := fun _ => fun
  | [d1, d2, d3, d4] => { results := [.lit (.bool false)], args := [d1, d2, d3, d4] }
  | _ => none }
def CrcOnWrongFalsely : Prop := crcOnRow.holds Try.pinned (OpenSpec.ofChange crcOnWrong)

/-- 'bytebarnlaw03.CrcNames': WHATEVER THE INPUT: true; the input reads as it did. -/
def crcNamesSpec : ChangeSpec := { name := "crcNames", fn := fun _ => fun
  | [] => { results := [.lit (.bool true)], args := [] }
  | _ => none }
def crcNamesRow : OpenClaim := { program := "ythnnikhkmpafjaa", sum := "9b0075affc19dc48ccfa7e09300293890b90a524ec9d07660b5a2aa7ea7998df", func := "bytebarn/bytebarnlaw03.CrcNames", spec := "crcNames", unfollowed := true, recurses := true, apart := false }
def CrcNamesSaid : Prop := crcNamesRow.holds Try.pinned (OpenSpec.ofChange crcNamesSpec)

/-- ITS FALSE NEIGHBOUR: 'it returns false'. Refute it at one input. -/
def crcNamesWrong : ChangeSpec := { name := "crcNames", fn := fun _ => fun
  | [] => { results := [.lit (.bool false)], args := [] }
  | _ => none }
def CrcNamesWrongFalsely : Prop := crcNamesRow.holds Try.pinned (OpenSpec.ofChange crcNamesWrong)

/-- 'bytebarnlaw03.CrcCuts': WHATEVER THE INPUT: true; the input reads as it did. -/
def crcCutsSpec : ChangeSpec := { name := "crcCuts", fn := fun _ => fun
  | [d1, d2] => { results := [.lit (.bool true)], args := [d1, d2] }
  | _ => none }
def crcCutsRow : OpenClaim := { program := "ythnnikhkmpafjaa", sum := "9b0075affc19dc48ccfa7e09300293890b90a524ec9d07660b5a2aa7ea7998df", func := "bytebarn/bytebarnlaw03.CrcCuts", spec := "crcCuts", unfollowed := true, recurses := true, apart := false }
def CrcCutsSaid : Prop := crcCutsRow.holds Try.pinned (OpenSpec.ofChange crcCutsSpec)

/-- ITS FALSE NEIGHBOUR: 'it returns false'. Refute it at one input. -/
def crcCutsWrong : ChangeSpec := { name := "crcCuts", fn := fun _ => fun
  | [d1, d2] => { results := [.lit (.bool false)], args := [d1, d2] }
  | _ => none }
def CrcCutsWrongFalsely : Prop := crcCutsRow.holds Try.pinned (OpenSpec.ofChange crcCutsWrong)

/- THE SECOND FORM. 'bulk': how many values and letters a reading holds, each counted each time it is reached (what is shared counts as often as it is met; a slice's spare places count too). A statement '..UptoSaid' is the law's where the arguments, and the package variables that the reading takes, are together of bulk at most 1048576: NARROWER than '..Said'. Prove '..Said' where nothing that the law and all that it calls make is longer than what came in: it says more and counts as full. Else prove '..UptoSaid'. A law counts once. -/
mutual
def uptoBulk {H : Type} : DataW H → Nat
  | .lit (.string bytes) => bytes.length + 1
  | .lit _ => 1
  | .nil => 1
  | .ptr d => uptoBulk d + 1
  | .slice elems spare => uptoBulkAll elems + uptoBulkAll spare + 1
  | .agg parts => uptoBulkAll parts + 1
  | .iface _ d => uptoBulk d + 1
  | .map entries => uptoBulkEntries entries + 1
  | .held _ => 1
def uptoBulkAll {H : Type} : List (DataW H) → Nat
  | [] => 0
  | d :: r => uptoBulk d + uptoBulkAll r
def uptoBulkEntries {H : Type} : List (Lit × DataW H) → Nat
  | [] => 0
  | x :: r => uptoBulkEntry x + uptoBulkEntries r
def uptoBulkEntry {H : Type} : Lit × DataW H → Nat
  | (.string bytes, d) => bytes.length + uptoBulk d + 1
  | (_, d) => uptoBulk d + 1
 end
def uptoSmall : (H : Type) → List (DataW H) → Bool := fun _ ds => decide (uptoBulkAll ds ≤ 1048576)
def OpenSpec.upto (s : _root_.Go.ChangeSpec) : _root_.Go.OpenSpec := { _root_.Go.OpenSpec.ofChange s with cond := some uptoSmall }

/-- 'bytebarnlaw03.CrcDivides', WHERE WHAT IT READS IS OF BULK AT MOST 1048576: true; the input reads as it did. -/
def crcDividesUptoRow : OpenClaim := { program := "ythnnikhkmpafjaa", sum := "9b0075affc19dc48ccfa7e09300293890b90a524ec9d07660b5a2aa7ea7998df", func := "bytebarn/bytebarnlaw03.CrcDivides", spec := "crcDivides", unfollowed := true, recurses := true, apart := false, narrowed := true }
def CrcDividesUptoSaid : Prop := crcDividesUptoRow.holds Try.pinned (OpenSpec.upto crcDividesSpec)

/-- 'bytebarnlaw03.CrcNear', WHERE WHAT IT READS IS OF BULK AT MOST 1048576: true; the input reads as it did. -/
def crcNearUptoRow : OpenClaim := { program := "ythnnikhkmpafjaa", sum := "9b0075affc19dc48ccfa7e09300293890b90a524ec9d07660b5a2aa7ea7998df", func := "bytebarn/bytebarnlaw03.CrcNear", spec := "crcNear", unfollowed := true, recurses := true, apart := false, narrowed := true }
def CrcNearUptoSaid : Prop := crcNearUptoRow.holds Try.pinned (OpenSpec.upto crcNearSpec)

/-- 'bytebarnlaw03.CrcMoves', WHERE WHAT IT READS IS OF BULK AT MOST 1048576: true; the input reads as it did. -/
def crcMovesUptoRow : OpenClaim := { program := "ythnnikhkmpafjaa", sum := "9b0075affc19dc48ccfa7e09300293890b90a524ec9d07660b5a2aa7ea7998df", func := "bytebarn/bytebarnlaw03.CrcMoves", spec := "crcMoves", apart := false, narrowed := true }
def CrcMovesUptoSaid : Prop := crcMovesUptoRow.holds Try.pinned (OpenSpec.upto crcMovesSpec)

/-- 'bytebarnlaw03.CrcOn', WHERE WHAT IT READS IS OF BULK AT MOST 1048576: true; the input reads as it did. -/
def crcOnUptoRow : OpenClaim := { program := "ythnnikhkmpafjaa", sum := "9b0075affc19dc48ccfa7e09300293890b90a524ec9d07660b5a2aa7ea7998df", func := "bytebarn/bytebarnlaw03.CrcOn", spec := "crcOn", unfollowed := true, recurses := true, apart := false, narrowed := true }
def CrcOnUptoSaid : Prop := crcOnUptoRow.holds Try.pinned (OpenSpec.upto crcOnSpec)

/-- 'bytebarnlaw03.CrcNames', WHERE WHAT IT READS IS OF BULK AT MOST 1048576: true; the input reads as it did. -/
def crcNamesUptoRow : OpenClaim := { program := "ythnnikhkmpafjaa", sum := "9b0075affc19dc48ccfa7e09300293890b90a524ec9d07660b5a2aa7ea7998df", func := "bytebarn/bytebarnlaw03.CrcNames", spec := "crcNames", unfollowed := true, recurses := true, apart := false, narrowed := true }
def CrcNamesUptoSaid : Prop := crcNamesUptoRow.holds Try.pinned (OpenSpec.upto crcNamesSpec)

/-- 'bytebarnlaw03.CrcCuts', WHERE WHAT IT READS IS OF BULK AT MOST 1048576: true; the input reads as it did. -/
def crcCutsUptoRow : OpenClaim := { program := "ythnnikhkmpafjaa", sum := "9b0075affc19dc48ccfa7e09300293890b90a524ec9d07660b5a2aa7ea7998df", func := "bytebarn/bytebarnlaw03.CrcCuts", spec := "crcCuts", unfollowed := true, recurses := true, apart := false, narrowed := true }
def CrcCutsUptoSaid : Prop := crcCutsUptoRow.holds Try.pinned (OpenSpec.upto crcCutsSpec)

end Rows
end Go.Proofs.Ythnnikhkmpafjaa
