/-
  No cell of these rows narrows 'for every input' (looked for: loops, veiled, ifaces, maps, wideKeys, modest, calm, conditions, laid).
  DERIVED. THE GIVEN ROWS OF THIS SEAT. 6 by the template 'for every input the law returns true; each argument reads behind the call as it read before'; 0 by the template 'total and deterministic' (their statements: YtgnnalempnbjnaaTotals.lean).
  GIVEN WITH THE SEED: the statements are not yours to turn. If you find one false, say at which input.
  Laid BY PROGRAM, IN A SANDBOX (cutbox-rows.mjs): the forced cells as the released guide's own fill.sh prints them over the translation 9353a75b302c5987… (all of the seat's roots in one cut). By AI agents, Wed Nov 11 2026. No macro, syntax, notation, axiom, sorry.
-/
import Derived.Test.YtgnnalempnbjnaaChecked
import GoSem.Claim
import GoSem.ClaimJoined
import GoSem.ClaimMapViews
import Derived.JoinedTies
import Derived.KernelRfl
namespace Go.Proofs.Ytgnnalempnbjnaa
/- THE CELL 'sum', in the pinned program and in every row, IS THE sha256 OF THE DUMP (.gsa) THAT YtgnnalempnbjnaaProg.lean LOADS. Nothing in Lean hashes anything: it is a label: what it is worth is what the hold of that sum in a sandbox is worth. -/
noncomputable def Try.pinned : Pinned := { name := "ytgnnalempnbjnaa", sum := "9353a75b302c5987715c292595c682e266bc7546a3c9ac7707847dfdc6201813", checked := Try.checked }
namespace Rows
def none {H : Type} : Left H := { results := [], args := [] }

/-- 'bytebarnlaw01.LebPuts': WHATEVER THE INPUT: true; the input reads as it did. -/
def lebPutsSpec : ChangeSpec := { name := "lebPuts", fn := fun _ => fun
  | [d1, d2] => { results := [.lit (.bool true)], args := [d1, d2] }
  | _ => none }
def lebPutsRow : OpenClaim := { program := "ytgnnalempnbjnaa", sum := "9353a75b302c5987715c292595c682e266bc7546a3c9ac7707847dfdc6201813", func := "bytebarn/bytebarnlaw01.LebPuts", spec := "lebPuts", unfollowed := true, recurses := true, apart := false }
def LebPutsSaid : Prop := lebPutsRow.holds Try.pinned (OpenSpec.ofChange lebPutsSpec)

/-- ITS FALSE NEIGHBOUR: 'it returns false'. Refute it at one input. -/
def lebPutsWrong : ChangeSpec := { name := "lebPuts", fn := fun _ => fun
  | [d1, d2] => { results := [.lit (.bool false)], args := [d1, d2] }
  | _ => none }
def LebPutsWrongFalsely : Prop := lebPutsRow.holds Try.pinned (OpenSpec.ofChange lebPutsWrong)

/-- 'bytebarnlaw01.LebGets': WHATEVER THE INPUT: true; the input reads as it did. -/
def lebGetsSpec : ChangeSpec := { name := "lebGets", fn := fun _ => fun
  | [d1, d2, d3] => { results := [.lit (.bool true)], args := [d1, d2, d3] }
  | _ => none }
def lebGetsRow : OpenClaim := { program := "ytgnnalempnbjnaa", sum := "9353a75b302c5987715c292595c682e266bc7546a3c9ac7707847dfdc6201813", func := "bytebarn/bytebarnlaw01.LebGets", spec := "lebGets", unfollowed := true, recurses := true, apart := false }
def LebGetsSaid : Prop := lebGetsRow.holds Try.pinned (OpenSpec.ofChange lebGetsSpec)

/-- ITS FALSE NEIGHBOUR: 'it returns false'. Refute it at one input. -/
def lebGetsWrong : ChangeSpec := { name := "lebGets", fn := fun _ => fun
  | [d1, d2, d3] => { results := [.lit (.bool false)], args := [d1, d2, d3] }
  | _ => none }
def LebGetsWrongFalsely : Prop := lebGetsRow.holds Try.pinned (OpenSpec.ofChange lebGetsWrong)

/-- 'bytebarnlaw01.LebNames': WHATEVER THE INPUT: true; the input reads as it did. -/
def lebNamesSpec : ChangeSpec := { name := "lebNames", fn := fun _ => fun
  | [] => { results := [.lit (.bool true)], args := [] }
  | _ => none }
def lebNamesRow : OpenClaim := { program := "ytgnnalempnbjnaa", sum := "9353a75b302c5987715c292595c682e266bc7546a3c9ac7707847dfdc6201813", func := "bytebarn/bytebarnlaw01.LebNames", spec := "lebNames", unfollowed := true, recurses := true, apart := false }
def LebNamesSaid : Prop := lebNamesRow.holds Try.pinned (OpenSpec.ofChange lebNamesSpec)

/-- ITS FALSE NEIGHBOUR: 'it returns false'. Refute it at one input. -/
def lebNamesWrong : ChangeSpec := { name := "lebNames", fn := fun _ => fun
  | [] => { results := [.lit (.bool false)], args := [] }
  | _ => none }
def LebNamesWrongFalsely : Prop := lebNamesRow.holds Try.pinned (OpenSpec.ofChange lebNamesWrong)

/-- 'bytebarnlaw01.LebBack': WHATEVER THE INPUT: true; the input reads as it did. -/
def lebBackSpec : ChangeSpec := { name := "lebBack", fn := fun _ => fun
  | [d1, d2, d3, d4] => { results := [.lit (.bool true)], args := [d1, d2, d3, d4] }
  | _ => none }
def lebBackRow : OpenClaim := { program := "ytgnnalempnbjnaa", sum := "9353a75b302c5987715c292595c682e266bc7546a3c9ac7707847dfdc6201813", func := "bytebarn/bytebarnlaw01.LebBack", spec := "lebBack", unfollowed := true, recurses := true, apart := false }
def LebBackSaid : Prop := lebBackRow.holds Try.pinned (OpenSpec.ofChange lebBackSpec)

/-- ITS FALSE NEIGHBOUR: 'it returns false'. Refute it at one input. -/
def lebBackWrong : ChangeSpec := { name := "lebBack", fn := fun _ => fun
  | [d1, d2, d3, d4] => { results := [.lit (.bool false)], args := [d1, d2, d3, d4] }
  | _ => none }
def LebBackWrongFalsely : Prop := lebBackRow.holds Try.pinned (OpenSpec.ofChange lebBackWrong)

/-- 'bytebarnlaw01.LebShort': WHATEVER THE INPUT: true; the input reads as it did. -/
def lebShortSpec : ChangeSpec := { name := "lebShort", fn := fun _ => fun
  | [d1, d2, d3] => { results := [.lit (.bool true)], args := [d1, d2, d3] }
  | _ => none }
def lebShortRow : OpenClaim := { program := "ytgnnalempnbjnaa", sum := "9353a75b302c5987715c292595c682e266bc7546a3c9ac7707847dfdc6201813", func := "bytebarn/bytebarnlaw01.LebShort", spec := "lebShort", unfollowed := true, recurses := true, apart := false }
def LebShortSaid : Prop := lebShortRow.holds Try.pinned (OpenSpec.ofChange lebShortSpec)

/-- ITS FALSE NEIGHBOUR: 'it returns false'. Refute it at one input. -/
def lebShortWrong : ChangeSpec := { name := "lebShort", fn := fun _ => fun
  | [d1, d2, d3] => { results := [.lit (.bool false)], args := [d1, d2, d3] }
  | _ => none }
def LebShortWrongFalsely : Prop := lebShortRow.holds Try.pinned (OpenSpec.ofChange lebShortWrong)

/-- 'bytebarnlaw01.LebPads': WHATEVER THE INPUT: true; the input reads as it did. -/
def lebPadsSpec : ChangeSpec := { name := "lebPads", fn := fun _ => fun
  | [d1, d2, d3] => { results := [.lit (.bool true)], args := [d1, d2, d3] }
  | _ => none }
def lebPadsRow : OpenClaim := { program := "ytgnnalempnbjnaa", sum := "9353a75b302c5987715c292595c682e266bc7546a3c9ac7707847dfdc6201813", func := "bytebarn/bytebarnlaw01.LebPads", spec := "lebPads", unfollowed := true, recurses := true, apart := false }
def LebPadsSaid : Prop := lebPadsRow.holds Try.pinned (OpenSpec.ofChange lebPadsSpec)

/-- ITS FALSE NEIGHBOUR: 'it returns false'. Refute it at one input. -/
def lebPadsWrong : ChangeSpec := { name := "lebPads", fn := fun _ => fun
  | [d1, d2, d3] => { results := [.lit (.bool false)], args := [d1, d2, d3] }
  | _ => none }
def LebPadsWrongFalsely : Prop := lebPadsRow.holds Try.pinned (OpenSpec.ofChange lebPadsWrong)

/- THE SECOND FORM. 'bulk': how many values and letters a reading holds, each counted each time it is reached (what is shared counts as often as it is met; a slice's spare places count too). A statement '..UptoSaid' is the law's where the arguments, and the package variables that the reading takes, are together of bulk at most 1048576: NARROWER than '..Said'. Prove '..Said' where nothing that the law and all that it calls make is longer than what came in: it says more and counts as full. Else prove '..UptoSaid'. A law counts once. -/
mutual
def uptoBulk {H : Type} : DataW H → Nat
  | .lit (.string bytes) => bytes.length + 1
  | .lit _ => 1
  | .nil => 1
  | .ptr d => uptoBulk d + 1
  | .slice elems spare => uptoBulkAll elems + uptoBulkAll spare + 1
  | .agg parts => uptoBulkAll parts + 1
  | .iface _ d => uptoBulk d + 1
  | .map entries => uptoBulkEntries entries + 1
  | .held _ => 1
def uptoBulkAll {H : Type} : List (DataW H) → Nat
  | [] => 0
  | d :: r => uptoBulk d + uptoBulkAll r
def uptoBulkEntries {H : Type} : List (Lit × DataW H) → Nat
  | [] => 0
  | x :: r => uptoBulkEntry x + uptoBulkEntries r
def uptoBulkEntry {H : Type} : Lit × DataW H → Nat
  | (.string bytes, d) => bytes.length + uptoBulk d + 1
  | (_, d) => uptoBulk d + 1
 end
def uptoSmall : (H : Type) → List (DataW H) → Bool := fun _ ds => decide (uptoBulkAll ds ≤ 1048576)
def OpenSpec.upto (s : _root_.Go.ChangeSpec) : _root_.Go.OpenSpec := { _root_.Go.OpenSpec.ofChange s with cond := some uptoSmall }

/-- 'bytebarnlaw01.LebPuts', WHERE WHAT IT READS IS OF BULK AT MOST 1048576: true; the input reads as it did. -/
def lebPutsUptoRow : OpenClaim := { program := "ytgnnalempnbjnaa", sum := "9353a75b302c5987715c292595c682e266bc7546a3c9ac7707847dfdc6201813", func := "bytebarn/bytebarnlaw01.LebPuts", spec := "lebPuts", unfollowed := true, recurses := true, apart := false, narrowed := true }
def LebPutsUptoSaid : Prop := lebPutsUptoRow.holds Try.pinned (OpenSpec.upto lebPutsSpec)

/-- 'bytebarnlaw01.LebGets', WHERE WHAT IT READS IS OF BULK AT MOST 1048576: true; the input reads as it did. -/
def lebGetsUptoRow : OpenClaim := { program := "ytgnnalempnbjnaa", sum := "9353a75b302c5987715c292595c682e266bc7546a3c9ac7707847dfdc6201813", func := "bytebarn/bytebarnlaw01.LebGets", spec := "lebGets", unfollowed := true, recurses := true, apart := false, narrowed := true }
def LebGetsUptoSaid : Prop := lebGetsUptoRow.holds Try.pinned (OpenSpec.upto lebGetsSpec)

/-- 'bytebarnlaw01.LebNames', WHERE WHAT IT READS IS OF BULK AT MOST 1048576: true; the input reads as it did. -/
def lebNamesUptoRow : OpenClaim := { program := "ytgnnalempnbjnaa", sum := "9353a75b302c5987715c292595c682e266bc7546a3c9ac7707847dfdc6201813", func := "bytebarn/bytebarnlaw01.LebNames", spec := "lebNames", unfollowed := true, recurses := true, apart := false, narrowed := true }
def LebNamesUptoSaid : Prop := lebNamesUptoRow.holds Try.pinned (OpenSpec.upto lebNamesSpec)

/-- 'bytebarnlaw01.LebBack', WHERE WHAT IT READS IS OF BULK AT MOST 1048576: true; the input reads as it did. -/
def lebBackUptoRow : OpenClaim := { program := "ytgnnalempnbjnaa", sum := "9353a75b302c5987715c292595c682e266bc7546a3c9ac7707847dfdc6201813", func := "bytebarn/bytebarnlaw01.LebBack", spec := "lebBack", unfollowed := true, recurses := true, apart := false, narrowed := true }
def LebBackUptoSaid : Prop := lebBackUptoRow.holds Try.pinned (OpenSpec.upto lebBackSpec)

/-- 'bytebarnlaw01.LebShort', WHERE WHAT IT READS IS OF BULK AT MOST 1048576: true; the input reads as it did. -/
def lebShortUptoRow : OpenClaim := { program := "ytgnnalempnbjnaa", sum := "9353a75b302c5987715c292595c682e266bc7546a3c9ac7707847dfdc6201813", func := "bytebarn/bytebarnlaw01.LebShort", spec := "lebShort", unfollowed := true, recurses := true, apart := false, narrowed := true }
def LebShortUptoSaid : Prop := lebShortUptoRow.holds Try.pinned (OpenSpec.upto lebShortSpec)

/-- 'bytebarnlaw01.LebPads', WHERE WHAT IT READS IS OF BULK AT MOST 1048576: true; the input reads as it did. -/
def lebPadsUptoRow : OpenClaim := { program := "ytgnnalempnbjnaa", sum := "9353a75b302c5987715c292595c682e266bc7546a3c9ac7707847dfdc6201813", func := "bytebarn/bytebarnlaw01.LebPads", spec := "lebPads", unfollowed := true, recurses := true, apart := false, narrowed := true }
def LebPadsUptoSaid : Prop := lebPadsUptoRow.holds Try.pinned (OpenSpec.upto lebPadsSpec)

end Rows
end Go.Proofs.Ytgnnalempnbjnaa
