/-
  No cell of these rows narrows 'for every input' (looked for: loops, veiled, ifaces, maps, wideKeys, modest, calm, conditions, laid).
  DERIVED. THE GIVEN ROWS OF THIS SEAT. 12 by the template 'for every input the law returns true; each argument reads behind the call as it read before'; 0 by the template 'total and deterministic' (their statements: YteoacngaicchiaaTotals.lean).
  GIVEN WITH THE SEED: the statements are not yours to turn. If you find one false, say at which input.
  Laid BY PROGRAM, IN A SANDBOX (cutbox-rows.mjs): the forced cells as the released guide's own fill.sh prints them over the translation 0e2215f005644fdf… (all of the seat's roots in one cut). By AI agents, Wed Nov 11 2026. No macro, syntax, notation, axiom, sorry.
-/
import Derived.Test.YteoacngaicchiaaChecked
import GoSem.Claim
import GoSem.ClaimJoined
import GoSem.ClaimMapViews
import Derived.JoinedTies
import Derived.KernelRfl
namespace Go.Proofs.Yteoacngaicchiaa
/- THE CELL 'sum', in the pinned program and in every row, IS THE sha256 OF THE DUMP (.gsa) THAT YteoacngaicchiaaProg.lean LOADS. Nothing in Lean hashes anything: it is a label: what it is worth is what the hold of that sum in a sandbox is worth. -/
noncomputable def Try.pinned : Pinned := { name := "yteoacngaicchiaa", sum := "0e2215f005644fdfcf830a6bfe2162a2664671cf606b8046485ece8abcb78670", checked := Try.checked }
namespace Rows
def none {H : Type} : Left H := { results := [], args := [] }

/-- 'laws.FnPhased': WHATEVER THE INPUT: true; the input reads as it did. -/
def fnPhasedSpec : ChangeSpec := { name := "fnPhased", fn := fun _ => fun
  | [d1, d2] => { results := [.lit (.bool true)], args := [d1, d2] }
  | _ => none }
def fnPhasedRow : OpenClaim := { program := "yteoacngaicchiaa", sum := "0e2215f005644fdfcf830a6bfe2162a2664671cf606b8046485ece8abcb78670", func := "loop.example/g01112/laws.FnPhased", spec := "fnPhased", unfollowed := true, recurses := true, apart := false }
def FnPhasedSaid : Prop := fnPhasedRow.holds Try.pinned (OpenSpec.ofChange fnPhasedSpec)

/-- ITS FALSE NEIGHBOUR: 'it returns false'. Refute it at one input. -/
def fnPhasedWrong : ChangeSpec := { name := "fnPhased", fn := fun _ => fun
  | [d1, d2] => { results := [.lit (.bool false)], args := [d1, d2] }
  | _ => none }
def FnPhasedWrongFalsely : Prop := fnPhasedRow.holds Try.pinned (OpenSpec.ofChange fnPhasedWrong)

/-- 'laws.FnExactAddressesOf': WHATEVER THE INPUT: true; the input reads as it did. -/
def fnExactAddressesOfSpec : ChangeSpec := { name := "fnExactAddressesOf", fn := fun _ => fun
  | [d] => { results := [.lit (.bool true)], args := [d] }
  | _ => none }
def fnExactAddressesOfRow : OpenClaim := { program := "yteoacngaicchiaa", sum := "0e2215f005644fdfcf830a6bfe2162a2664671cf606b8046485ece8abcb78670", func := "loop.example/g01112/laws.FnExactAddressesOf", spec := "fnExactAddressesOf", unfollowed := true, recurses := true, apart := false }
def FnExactAddressesOfSaid : Prop := fnExactAddressesOfRow.holds Try.pinned (OpenSpec.ofChange fnExactAddressesOfSpec)

/-- ITS FALSE NEIGHBOUR: 'it returns false'. Refute it at one input. -/
def fnExactAddressesOfWrong : ChangeSpec := { name := "fnExactAddressesOf", fn := fun _ => fun
  | [d] => { results := [.lit (.bool false)], args := [d] }
  | _ => none }
def FnExactAddressesOfWrongFalsely : Prop := fnExactAddressesOfRow.holds Try.pinned (OpenSpec.ofChange fnExactAddressesOfWrong)

/-- 'laws.FnExactPhasesOf': WHATEVER THE INPUT: true; the input reads as it did. -/
def fnExactPhasesOfSpec : ChangeSpec := { name := "fnExactPhasesOf", fn := fun _ => fun
  | [d1, d2] => { results := [.lit (.bool true)], args := [d1, d2] }
  | _ => none }
def fnExactPhasesOfRow : OpenClaim := { program := "yteoacngaicchiaa", sum := "0e2215f005644fdfcf830a6bfe2162a2664671cf606b8046485ece8abcb78670", func := "loop.example/g01112/laws.FnExactPhasesOf", spec := "fnExactPhasesOf", unfollowed := true, recurses := true, apart := false }
def FnExactPhasesOfSaid : Prop := fnExactPhasesOfRow.holds Try.pinned (OpenSpec.ofChange fnExactPhasesOfSpec)

/-- ITS FALSE NEIGHBOUR: 'it returns false'. Refute it at one input. -/
def fnExactPhasesOfWrong : ChangeSpec := { name := "fnExactPhasesOf", fn := fun _ => fun
  | [d1, d2] => { results := [.lit (.bool false)], args := [d1, d2] }
  | _ => none }
def FnExactPhasesOfWrongFalsely : Prop := fnExactPhasesOfRow.holds Try.pinned (OpenSpec.ofChange fnExactPhasesOfWrong)

/-- 'laws.FnExactWorkingSet': WHATEVER THE INPUT: true; the input reads as it did. -/
def fnExactWorkingSetSpec : ChangeSpec := { name := "fnExactWorkingSet", fn := fun _ => fun
  | [d1, d2, d3] => { results := [.lit (.bool true)], args := [d1, d2, d3] }
  | _ => none }
def fnExactWorkingSetRow : OpenClaim := { program := "yteoacngaicchiaa", sum := "0e2215f005644fdfcf830a6bfe2162a2664671cf606b8046485ece8abcb78670", func := "loop.example/g01112/laws.FnExactWorkingSet", spec := "fnExactWorkingSet", unfollowed := true, recurses := true, apart := false }
def FnExactWorkingSetSaid : Prop := fnExactWorkingSetRow.holds Try.pinned (OpenSpec.ofChange fnExactWorkingSetSpec)

/-- ITS FALSE NEIGHBOUR: 'it returns false'. Refute it at one input. -/
def fnExactWorkingSetWrong : ChangeSpec := { name := "fnExactWorkingSet", fn := fun _ => fun
  | [d1, d2, d3] => { results := [.lit (.bool false)], args := [d1, d2, d3] }
  | _ => none }
def FnExactWorkingSetWrongFalsely : Prop := fnExactWorkingSetRow.holds Try.pinned (OpenSpec.ofChange fnExactWorkingSetWrong)

/-- 'laws.FnExactCountsOf': WHATEVER THE INPUT: true; the input reads as it did. -/
def fnExactCountsOfSpec : ChangeSpec := { name := "fnExactCountsOf", fn := fun _ => fun
  | [d] => { results := [.lit (.bool true)], args := [d] }
  | _ => none }
def fnExactCountsOfRow : OpenClaim := { program := "yteoacngaicchiaa", sum := "0e2215f005644fdfcf830a6bfe2162a2664671cf606b8046485ece8abcb78670", func := "loop.example/g01112/laws.FnExactCountsOf", spec := "fnExactCountsOf", unfollowed := true, recurses := true, apart := false }
def FnExactCountsOfSaid : Prop := fnExactCountsOfRow.holds Try.pinned (OpenSpec.ofChange fnExactCountsOfSpec)

/-- ITS FALSE NEIGHBOUR: 'it returns false'. Refute it at one input. -/
def fnExactCountsOfWrong : ChangeSpec := { name := "fnExactCountsOf", fn := fun _ => fun
  | [d] => { results := [.lit (.bool false)], args := [d] }
  | _ => none }
def FnExactCountsOfWrongFalsely : Prop := fnExactCountsOfRow.holds Try.pinned (OpenSpec.ofChange fnExactCountsOfWrong)

/-- 'laws.FnExactWorkingSizes': WHATEVER THE INPUT: true; the input reads as it did. -/
def fnExactWorkingSizesSpec : ChangeSpec := { name := "fnExactWorkingSizes", fn := fun _ => fun
  | [d1, d2] => { results := [.lit (.bool true)], args := [d1, d2] }
  | _ => none }
def fnExactWorkingSizesRow : OpenClaim := { program := "yteoacngaicchiaa", sum := "0e2215f005644fdfcf830a6bfe2162a2664671cf606b8046485ece8abcb78670", func := "loop.example/g01112/laws.FnExactWorkingSizes", spec := "fnExactWorkingSizes", unfollowed := true, recurses := true, apart := false }
def FnExactWorkingSizesSaid : Prop := fnExactWorkingSizesRow.holds Try.pinned (OpenSpec.ofChange fnExactWorkingSizesSpec)

/-- ITS FALSE NEIGHBOUR: 'it returns false'. Refute it at one input. -/
def fnExactWorkingSizesWrong : ChangeSpec := { name := "fnExactWorkingSizes", fn := fun _ => fun
  | [d1, d2] => { results := [.lit (.bool false)], args := [d1, d2] }
  | _ => none }
def FnExactWorkingSizesWrongFalsely : Prop := fnExactWorkingSizesRow.holds Try.pinned (OpenSpec.ofChange fnExactWorkingSizesWrong)

/-- 'laws.FnExactValidPolicy': WHATEVER THE INPUT: true; the input reads as it did. -/
def fnExactValidPolicySpec : ChangeSpec := { name := "fnExactValidPolicy", fn := fun _ => fun
  | [d] => { results := [.lit (.bool true)], args := [d] }
  | _ => none }
def fnExactValidPolicyRow : OpenClaim := { program := "yteoacngaicchiaa", sum := "0e2215f005644fdfcf830a6bfe2162a2664671cf606b8046485ece8abcb78670", func := "loop.example/g01112/laws.FnExactValidPolicy", spec := "fnExactValidPolicy", unfollowed := true, recurses := true, apart := false }
def FnExactValidPolicySaid : Prop := fnExactValidPolicyRow.holds Try.pinned (OpenSpec.ofChange fnExactValidPolicySpec)

/-- ITS FALSE NEIGHBOUR: 'it returns false'. Refute it at one input. -/
def fnExactValidPolicyWrong : ChangeSpec := { name := "fnExactValidPolicy", fn := fun _ => fun
  | [d] => { results := [.lit (.bool false)], args := [d] }
  | _ => none }
def FnExactValidPolicyWrongFalsely : Prop := fnExactValidPolicyRow.holds Try.pinned (OpenSpec.ofChange fnExactValidPolicyWrong)

/-- 'laws.FnWorkingSum': WHATEVER THE INPUT: true; the input reads as it did. -/
def fnWorkingSumSpec : ChangeSpec := { name := "fnWorkingSum", fn := fun _ => fun
  | [d1, d2] => { results := [.lit (.bool true)], args := [d1, d2] }
  | _ => none }
def fnWorkingSumRow : OpenClaim := { program := "yteoacngaicchiaa", sum := "0e2215f005644fdfcf830a6bfe2162a2664671cf606b8046485ece8abcb78670", func := "loop.example/g01112/laws.FnWorkingSum", spec := "fnWorkingSum", unfollowed := true, recurses := true, apart := false }
def FnWorkingSumSaid : Prop := fnWorkingSumRow.holds Try.pinned (OpenSpec.ofChange fnWorkingSumSpec)

/-- ITS FALSE NEIGHBOUR: 'it returns false'. Refute it at one input. -/
def fnWorkingSumWrong : ChangeSpec := { name := "fnWorkingSum", fn := fun _ => fun
  | [d1, d2] => { results := [.lit (.bool false)], args := [d1, d2] }
  | _ => none }
def FnWorkingSumWrongFalsely : Prop := fnWorkingSumRow.holds Try.pinned (OpenSpec.ofChange fnWorkingSumWrong)

/-- 'laws.FnUsed': WHATEVER THE INPUT: true; the input reads as it did. -/
def fnUsedSpec : ChangeSpec := { name := "fnUsed", fn := fun _ => fun
  | [d1, d2] => { results := [.lit (.bool true)], args := [d1, d2] }
  | _ => none }
def fnUsedRow : OpenClaim := { program := "yteoacngaicchiaa", sum := "0e2215f005644fdfcf830a6bfe2162a2664671cf606b8046485ece8abcb78670", func := "loop.example/g01112/laws.FnUsed", spec := "fnUsed", unfollowed := true, recurses := true, apart := false }
def FnUsedSaid : Prop := fnUsedRow.holds Try.pinned (OpenSpec.ofChange fnUsedSpec)

/-- ITS FALSE NEIGHBOUR: 'it returns false'. Refute it at one input. -/
def fnUsedWrong : ChangeSpec := { name := "fnUsed", fn := fun _ => fun
  | [d1, d2] => { results := [.lit (.bool false)], args := [d1, d2] }
  | _ => none }
def FnUsedWrongFalsely : Prop := fnUsedRow.holds Try.pinned (OpenSpec.ofChange fnUsedWrong)

/-- 'laws.FnExactValidContents': WHATEVER THE INPUT: true; the input reads as it did. -/
def fnExactValidContentsSpec : ChangeSpec := { name := "fnExactValidContents", fn := fun _ => fun
  | [d1, d2] => { results := [.lit (.bool true)], args := [d1, d2] }
  | _ => none }
def fnExactValidContentsRow : OpenClaim := { program := "yteoacngaicchiaa", sum := "0e2215f005644fdfcf830a6bfe2162a2664671cf606b8046485ece8abcb78670", func := "loop.example/g01112/laws.FnExactValidContents", spec := "fnExactValidContents", unfollowed := true, recurses := true, apart := false }
def FnExactValidContentsSaid : Prop := fnExactValidContentsRow.holds Try.pinned (OpenSpec.ofChange fnExactValidContentsSpec)

/-- ITS FALSE NEIGHBOUR: 'it returns false'. Refute it at one input. -/
def fnExactValidContentsWrong : ChangeSpec := { name := "fnExactValidContents", fn := fun _ => fun
  | [d1, d2] => { results := [.lit (.bool false)], args := [d1, d2] }
  | _ => none }
def FnExactValidContentsWrongFalsely : Prop := fnExactValidContentsRow.holds Try.pinned (OpenSpec.ofChange fnExactValidContentsWrong)

/-- 'laws.FnExactEmptyContents': WHATEVER THE INPUT: true; the input reads as it did. -/
def fnExactEmptyContentsSpec : ChangeSpec := { name := "fnExactEmptyContents", fn := fun _ => fun
  | [d] => { results := [.lit (.bool true)], args := [d] }
  | _ => none }
def fnExactEmptyContentsRow : OpenClaim := { program := "yteoacngaicchiaa", sum := "0e2215f005644fdfcf830a6bfe2162a2664671cf606b8046485ece8abcb78670", func := "loop.example/g01112/laws.FnExactEmptyContents", spec := "fnExactEmptyContents", unfollowed := true, recurses := true, apart := false }
def FnExactEmptyContentsSaid : Prop := fnExactEmptyContentsRow.holds Try.pinned (OpenSpec.ofChange fnExactEmptyContentsSpec)

/-- ITS FALSE NEIGHBOUR: 'it returns false'. Refute it at one input. -/
def fnExactEmptyContentsWrong : ChangeSpec := { name := "fnExactEmptyContents", fn := fun _ => fun
  | [d] => { results := [.lit (.bool false)], args := [d] }
  | _ => none }
def FnExactEmptyContentsWrongFalsely : Prop := fnExactEmptyContentsRow.holds Try.pinned (OpenSpec.ofChange fnExactEmptyContentsWrong)

/-- 'laws.FnExactForgetAfter': WHATEVER THE INPUT: true; the input reads as it did. -/
def fnExactForgetAfterSpec : ChangeSpec := { name := "fnExactForgetAfter", fn := fun _ => fun
  | [d] => { results := [.lit (.bool true)], args := [d] }
  | _ => none }
def fnExactForgetAfterRow : OpenClaim := { program := "yteoacngaicchiaa", sum := "0e2215f005644fdfcf830a6bfe2162a2664671cf606b8046485ece8abcb78670", func := "loop.example/g01112/laws.FnExactForgetAfter", spec := "fnExactForgetAfter", unfollowed := true, recurses := true, apart := false }
def FnExactForgetAfterSaid : Prop := fnExactForgetAfterRow.holds Try.pinned (OpenSpec.ofChange fnExactForgetAfterSpec)

/-- ITS FALSE NEIGHBOUR: 'it returns false'. Refute it at one input. -/
def fnExactForgetAfterWrong : ChangeSpec := { name := "fnExactForgetAfter", fn := fun _ => fun
  | [d] => { results := [.lit (.bool false)], args := [d] }
  | _ => none }
def FnExactForgetAfterWrongFalsely : Prop := fnExactForgetAfterRow.holds Try.pinned (OpenSpec.ofChange fnExactForgetAfterWrong)

/- THE SECOND FORM. 'bulk': how many values and letters a reading holds, each counted each time it is reached (what is shared counts as often as it is met; a slice's spare places count too). A statement '..UptoSaid' is the law's where the arguments, and the package variables that the reading takes, are together of bulk at most 1048576: NARROWER than '..Said'. Prove '..Said' where nothing that the law and all that it calls make is longer than what came in: it says more and counts as full. Else prove '..UptoSaid'. A law counts once. -/
mutual
def uptoBulk {H : Type} : DataW H → Nat
  | .lit (.string bytes) => bytes.length + 1
  | .lit _ => 1
  | .nil => 1
  | .ptr d => uptoBulk d + 1
  | .slice elems spare => uptoBulkAll elems + uptoBulkAll spare + 1
  | .agg parts => uptoBulkAll parts + 1
  | .iface _ d => uptoBulk d + 1
  | .map entries => uptoBulkEntries entries + 1
  | .held _ => 1
def uptoBulkAll {H : Type} : List (DataW H) → Nat
  | [] => 0
  | d :: r => uptoBulk d + uptoBulkAll r
def uptoBulkEntries {H : Type} : List (Lit × DataW H) → Nat
  | [] => 0
  | x :: r => uptoBulkEntry x + uptoBulkEntries r
def uptoBulkEntry {H : Type} : Lit × DataW H → Nat
  | (.string bytes, d) => bytes.length + uptoBulk d + 1
  | (_, d) => uptoBulk d + 1
 end
def uptoSmall : (H : Type) → List (DataW H) → Bool := fun _ ds => decide (uptoBulkAll ds ≤ 1048576)
def OpenSpec.upto (s : _root_.Go.ChangeSpec) : _root_.Go.OpenSpec := { _root_.Go.OpenSpec.ofChange s with cond := some uptoSmall }

/-- 'laws.FnPhased', WHERE WHAT IT READS IS OF BULK AT MOST 1048576: true; the input reads as it did. -/
def fnPhasedUptoRow : OpenClaim := { program := "yteoacngaicchiaa", sum := "0e2215f005644fdfcf830a6bfe2162a2664671cf606b8046485ece8abcb78670", func := "loop.example/g01112/laws.FnPhased", spec := "fnPhased", unfollowed := true, recurses := true, apart := false, narrowed := true }
def FnPhasedUptoSaid : Prop := fnPhasedUptoRow.holds Try.pinned (OpenSpec.upto fnPhasedSpec)

/-- 'laws.FnExactAddressesOf', WHERE WHAT IT READS IS OF BULK AT MOST 1048576: true; the input reads as it did. -/
def fnExactAddressesOfUptoRow : OpenClaim := { program := "yteoacngaicchiaa", sum := "0e2215f005644fdfcf830a6bfe2162a2664671cf606b8046485ece8abcb78670", func := "loop.example/g01112/laws.FnExactAddressesOf", spec := "fnExactAddressesOf", unfollowed := true, recurses := true, apart := false, narrowed := true }
def FnExactAddressesOfUptoSaid : Prop := fnExactAddressesOfUptoRow.holds Try.pinned (OpenSpec.upto fnExactAddressesOfSpec)

/-- 'laws.FnExactPhasesOf', WHERE WHAT IT READS IS OF BULK AT MOST 1048576: true; the input reads as it did. -/
def fnExactPhasesOfUptoRow : OpenClaim := { program := "yteoacngaicchiaa", sum := "0e2215f005644fdfcf830a6bfe2162a2664671cf606b8046485ece8abcb78670", func := "loop.example/g01112/laws.FnExactPhasesOf", spec := "fnExactPhasesOf", unfollowed := true, recurses := true, apart := false, narrowed := true }
def FnExactPhasesOfUptoSaid : Prop := fnExactPhasesOfUptoRow.holds Try.pinned (OpenSpec.upto fnExactPhasesOfSpec)

/-- 'laws.FnExactWorkingSet', WHERE WHAT IT READS IS OF BULK AT MOST 1048576: true; the input reads as it did. -/
def fnExactWorkingSetUptoRow : OpenClaim := { program := "yteoacngaicchiaa", sum := "0e2215f005644fdfcf830a6bfe2162a2664671cf606b8046485ece8abcb78670", func := "loop.example/g01112/laws.FnExactWorkingSet", spec := "fnExactWorkingSet", unfollowed := true, recurses := true, apart := false, narrowed := true }
def FnExactWorkingSetUptoSaid : Prop := fnExactWorkingSetUptoRow.holds Try.pinned (OpenSpec.upto fnExactWorkingSetSpec)

/-- 'laws.FnExactCountsOf', WHERE WHAT IT READS IS OF BULK AT MOST 1048576: true; the input reads as it did. -/
def fnExactCountsOfUptoRow : OpenClaim := { program := "yteoacngaicchiaa", sum := "0e2215f005644fdfcf830a6bfe2162a2664671cf606b8046485ece8abcb78670", func := "loop.example/g01112/laws.FnExactCountsOf", spec := "fnExactCountsOf", unfollowed := true, recurses := true, apart := false, narrowed := true }
def FnExactCountsOfUptoSaid : Prop := fnExactCountsOfUptoRow.holds Try.pinned (OpenSpec.upto fnExactCountsOfSpec)

/-- 'laws.FnExactWorkingSizes', WHERE WHAT IT READS IS OF BULK AT MOST 1048576: true; the input reads as it did. -/
def fnExactWorkingSizesUptoRow : OpenClaim := { program := "yteoacngaicchiaa", sum := "0e2215f005644fdfcf830a6bfe2162a2664671cf606b8046485ece8abcb78670", func := "loop.example/g01112/laws.FnExactWorkingSizes", spec := "fnExactWorkingSizes", unfollowed := true, recurses := true, apart := false, narrowed := true }
def FnExactWorkingSizesUptoSaid : Prop := fnExactWorkingSizesUptoRow.holds Try.pinned (OpenSpec.upto fnExactWorkingSizesSpec)

/-- 'laws.FnExactValidPolicy', WHERE WHAT IT READS IS OF BULK AT MOST 1048576: true; the input reads as it did. -/
def fnExactValidPolicyUptoRow : OpenClaim := { program := "yteoacngaicchiaa", sum := "0e2215f005644fdfcf830a6bfe2162a2664671cf606b8046485ece8abcb78670", func := "loop.example/g01112/laws.FnExactValidPolicy", spec := "fnExactValidPolicy", unfollowed := true, recurses := true, apart := false, narrowed := true }
def FnExactValidPolicyUptoSaid : Prop := fnExactValidPolicyUptoRow.holds Try.pinned (OpenSpec.upto fnExactValidPolicySpec)

/-- 'laws.FnWorkingSum', WHERE WHAT IT READS IS OF BULK AT MOST 1048576: true; the input reads as it did. -/
def fnWorkingSumUptoRow : OpenClaim := { program := "yteoacngaicchiaa", sum := "0e2215f005644fdfcf830a6bfe2162a2664671cf606b8046485ece8abcb78670", func := "loop.example/g01112/laws.FnWorkingSum", spec := "fnWorkingSum", unfollowed := true, recurses := true, apart := false, narrowed := true }
def FnWorkingSumUptoSaid : Prop := fnWorkingSumUptoRow.holds Try.pinned (OpenSpec.upto fnWorkingSumSpec)

/-- 'laws.FnUsed', WHERE WHAT IT READS IS OF BULK AT MOST 1048576: true; the input reads as it did. -/
def fnUsedUptoRow : OpenClaim := { program := "yteoacngaicchiaa", sum := "0e2215f005644fdfcf830a6bfe2162a2664671cf606b8046485ece8abcb78670", func := "loop.example/g01112/laws.FnUsed", spec := "fnUsed", unfollowed := true, recurses := true, apart := false, narrowed := true }
def FnUsedUptoSaid : Prop := fnUsedUptoRow.holds Try.pinned (OpenSpec.upto fnUsedSpec)

/-- 'laws.FnExactValidContents', WHERE WHAT IT READS IS OF BULK AT MOST 1048576: true; the input reads as it did. -/
def fnExactValidContentsUptoRow : OpenClaim := { program := "yteoacngaicchiaa", sum := "0e2215f005644fdfcf830a6bfe2162a2664671cf606b8046485ece8abcb78670", func := "loop.example/g01112/laws.FnExactValidContents", spec := "fnExactValidContents", unfollowed := true, recurses := true, apart := false, narrowed := true }
def FnExactValidContentsUptoSaid : Prop := fnExactValidContentsUptoRow.holds Try.pinned (OpenSpec.upto fnExactValidContentsSpec)

/-- 'laws.FnExactEmptyContents', WHERE WHAT IT READS IS OF BULK AT MOST 1048576: true; the input reads as it did. -/
def fnExactEmptyContentsUptoRow : OpenClaim := { program := "yteoacngaicchiaa", sum := "0e2215f005644fdfcf830a6bfe2162a2664671cf606b8046485ece8abcb78670", func := "loop.example/g01112/laws.FnExactEmptyContents", spec := "fnExactEmptyContents", unfollowed := true, recurses := true, apart := false, narrowed := true }
def FnExactEmptyContentsUptoSaid : Prop := fnExactEmptyContentsUptoRow.holds Try.pinned (OpenSpec.upto fnExactEmptyContentsSpec)

/-- 'laws.FnExactForgetAfter', WHERE WHAT IT READS IS OF BULK AT MOST 1048576: true; the input reads as it did. -/
def fnExactForgetAfterUptoRow : OpenClaim := { program := "yteoacngaicchiaa", sum := "0e2215f005644fdfcf830a6bfe2162a2664671cf606b8046485ece8abcb78670", func := "loop.example/g01112/laws.FnExactForgetAfter", spec := "fnExactForgetAfter", unfollowed := true, recurses := true, apart := false, narrowed := true }
def FnExactForgetAfterUptoSaid : Prop := fnExactForgetAfterUptoRow.holds Try.pinned (OpenSpec.upto fnExactForgetAfterSpec)

end Rows
end Go.Proofs.Yteoacngaicchiaa
