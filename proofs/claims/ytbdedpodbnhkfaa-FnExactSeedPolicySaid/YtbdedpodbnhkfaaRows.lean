/-
  No cell of these rows narrows 'for every input' (looked for: loops, veiled, ifaces, maps, wideKeys, modest, calm, conditions, laid).
  DERIVED. THE GIVEN ROWS OF THIS SEAT. 11 by the template 'for every input the law returns true; each argument reads behind the call as it read before'; 0 by the template 'total and deterministic' (their statements: YtbdedpodbnhkfaaTotals.lean).
  GIVEN WITH THE SEED: the statements are not yours to turn. If you find one false, say at which input.
  Laid BY PROGRAM, IN A SANDBOX (cutbox-rows.mjs): the forced cells as the released guide's own fill.sh prints them over the translation dd6c15a3758242be… (all of the seat's roots in one cut). By AI agents, Wed Nov 11 2026. No macro, syntax, notation, axiom, sorry.
-/
import Derived.Test.YtbdedpodbnhkfaaChecked
import GoSem.Claim
import GoSem.ClaimJoined
import GoSem.ClaimMapViews
import Derived.JoinedTies
import Derived.KernelRfl
namespace Go.Proofs.Ytbdedpodbnhkfaa
/- THE CELL 'sum', in the pinned program and in every row, IS THE sha256 OF THE DUMP (.gsa) THAT YtbdedpodbnhkfaaProg.lean LOADS. Nothing in Lean hashes anything: it is a label: what it is worth is what the hold of that sum in a sandbox is worth. -/
noncomputable def Try.pinned : Pinned := { name := "ytbdedpodbnhkfaa", sum := "dd6c15a3758242be02218c6cb48baf038f5201668eaafeee8e4237ad5c4ebc38", checked := Try.checked }
namespace Rows
def none {H : Type} : Left H := { results := [], args := [] }

/-- 'laws.FnNested': WHATEVER THE INPUT: true; the input reads as it did. -/
def fnNestedSpec : ChangeSpec := { name := "fnNested", fn := fun _ => fun
  | [d1, d2] => { results := [.lit (.bool true)], args := [d1, d2] }
  | _ => none }
def fnNestedRow : OpenClaim := { program := "ytbdedpodbnhkfaa", sum := "dd6c15a3758242be02218c6cb48baf038f5201668eaafeee8e4237ad5c4ebc38", func := "loop.example/g01112/laws.FnNested", spec := "fnNested", unfollowed := true, recurses := true, apart := false }
def FnNestedSaid : Prop := fnNestedRow.holds Try.pinned (OpenSpec.ofChange fnNestedSpec)

/-- ITS FALSE NEIGHBOUR: 'it returns false'. Refute it at one input. -/
def fnNestedWrong : ChangeSpec := { name := "fnNested", fn := fun _ => fun
  | [d1, d2] => { results := [.lit (.bool false)], args := [d1, d2] }
  | _ => none }
def FnNestedWrongFalsely : Prop := fnNestedRow.holds Try.pinned (OpenSpec.ofChange fnNestedWrong)

/-- 'laws.FnExactSeedOrder': WHATEVER THE INPUT: true; the input reads as it did. -/
def fnExactSeedOrderSpec : ChangeSpec := { name := "fnExactSeedOrder", fn := fun _ => fun
  | [d1, d2] => { results := [.lit (.bool true)], args := [d1, d2] }
  | _ => none }
def fnExactSeedOrderRow : OpenClaim := { program := "ytbdedpodbnhkfaa", sum := "dd6c15a3758242be02218c6cb48baf038f5201668eaafeee8e4237ad5c4ebc38", func := "loop.example/g01112/laws.FnExactSeedOrder", spec := "fnExactSeedOrder", apart := false }
def FnExactSeedOrderSaid : Prop := fnExactSeedOrderRow.holds Try.pinned (OpenSpec.ofChange fnExactSeedOrderSpec)

/-- ITS FALSE NEIGHBOUR: 'it returns false'. Refute it at one input. -/
def fnExactSeedOrderWrong : ChangeSpec := { name := "fnExactSeedOrder", fn := fun _ => fun
  | [d1, d2] => { results := [.lit (.bool false)], args := [d1, d2] }
  | _ => none }
def FnExactSeedOrderWrongFalsely : Prop := fnExactSeedOrderRow.holds Try.pinned (OpenSpec.ofChange fnExactSeedOrderWrong)

/-- 'laws.FnExactNextUses': WHATEVER THE INPUT: true; the input reads as it did. -/
def fnExactNextUsesSpec : ChangeSpec := { name := "fnExactNextUses", fn := fun _ => fun
  | [d] => { results := [.lit (.bool true)], args := [d] }
  | _ => none }
def fnExactNextUsesRow : OpenClaim := { program := "ytbdedpodbnhkfaa", sum := "dd6c15a3758242be02218c6cb48baf038f5201668eaafeee8e4237ad5c4ebc38", func := "loop.example/g01112/laws.FnExactNextUses", spec := "fnExactNextUses", unfollowed := true, recurses := true, apart := false }
def FnExactNextUsesSaid : Prop := fnExactNextUsesRow.holds Try.pinned (OpenSpec.ofChange fnExactNextUsesSpec)

/-- ITS FALSE NEIGHBOUR: 'it returns false'. Refute it at one input. -/
def fnExactNextUsesWrong : ChangeSpec := { name := "fnExactNextUses", fn := fun _ => fun
  | [d] => { results := [.lit (.bool false)], args := [d] }
  | _ => none }
def FnExactNextUsesWrongFalsely : Prop := fnExactNextUsesRow.holds Try.pinned (OpenSpec.ofChange fnExactNextUsesWrong)

/-- 'laws.FnExactGapsOf': WHATEVER THE INPUT: true; the input reads as it did. -/
def fnExactGapsOfSpec : ChangeSpec := { name := "fnExactGapsOf", fn := fun _ => fun
  | [d] => { results := [.lit (.bool true)], args := [d] }
  | _ => none }
def fnExactGapsOfRow : OpenClaim := { program := "ytbdedpodbnhkfaa", sum := "dd6c15a3758242be02218c6cb48baf038f5201668eaafeee8e4237ad5c4ebc38", func := "loop.example/g01112/laws.FnExactGapsOf", spec := "fnExactGapsOf", unfollowed := true, recurses := true, apart := false }
def FnExactGapsOfSaid : Prop := fnExactGapsOfRow.holds Try.pinned (OpenSpec.ofChange fnExactGapsOfSpec)

/-- ITS FALSE NEIGHBOUR: 'it returns false'. Refute it at one input. -/
def fnExactGapsOfWrong : ChangeSpec := { name := "fnExactGapsOf", fn := fun _ => fun
  | [d] => { results := [.lit (.bool false)], args := [d] }
  | _ => none }
def FnExactGapsOfWrongFalsely : Prop := fnExactGapsOfRow.holds Try.pinned (OpenSpec.ofChange fnExactGapsOfWrong)

/-- 'laws.FnExactCanonicalUses': WHATEVER THE INPUT: true; the input reads as it did. -/
def fnExactCanonicalUsesSpec : ChangeSpec := { name := "fnExactCanonicalUses", fn := fun _ => fun
  | [d] => { results := [.lit (.bool true)], args := [d] }
  | _ => none }
def fnExactCanonicalUsesRow : OpenClaim := { program := "ytbdedpodbnhkfaa", sum := "dd6c15a3758242be02218c6cb48baf038f5201668eaafeee8e4237ad5c4ebc38", func := "loop.example/g01112/laws.FnExactCanonicalUses", spec := "fnExactCanonicalUses", unfollowed := true, recurses := true, apart := false }
def FnExactCanonicalUsesSaid : Prop := fnExactCanonicalUsesRow.holds Try.pinned (OpenSpec.ofChange fnExactCanonicalUsesSpec)

/-- ITS FALSE NEIGHBOUR: 'it returns false'. Refute it at one input. -/
def fnExactCanonicalUsesWrong : ChangeSpec := { name := "fnExactCanonicalUses", fn := fun _ => fun
  | [d] => { results := [.lit (.bool false)], args := [d] }
  | _ => none }
def FnExactCanonicalUsesWrongFalsely : Prop := fnExactCanonicalUsesRow.holds Try.pinned (OpenSpec.ofChange fnExactCanonicalUsesWrong)

/-- 'laws.FnExactRunsOf': WHATEVER THE INPUT: true; the input reads as it did. -/
def fnExactRunsOfSpec : ChangeSpec := { name := "fnExactRunsOf", fn := fun _ => fun
  | [d] => { results := [.lit (.bool true)], args := [d] }
  | _ => none }
def fnExactRunsOfRow : OpenClaim := { program := "ytbdedpodbnhkfaa", sum := "dd6c15a3758242be02218c6cb48baf038f5201668eaafeee8e4237ad5c4ebc38", func := "loop.example/g01112/laws.FnExactRunsOf", spec := "fnExactRunsOf", unfollowed := true, recurses := true, apart := false }
def FnExactRunsOfSaid : Prop := fnExactRunsOfRow.holds Try.pinned (OpenSpec.ofChange fnExactRunsOfSpec)

/-- ITS FALSE NEIGHBOUR: 'it returns false'. Refute it at one input. -/
def fnExactRunsOfWrong : ChangeSpec := { name := "fnExactRunsOf", fn := fun _ => fun
  | [d] => { results := [.lit (.bool false)], args := [d] }
  | _ => none }
def FnExactRunsOfWrongFalsely : Prop := fnExactRunsOfRow.holds Try.pinned (OpenSpec.ofChange fnExactRunsOfWrong)

/-- 'laws.FnRenamed': WHATEVER THE INPUT: true; the input reads as it did. -/
def fnRenamedSpec : ChangeSpec := { name := "fnRenamed", fn := fun _ => fun
  | [d1, d2] => { results := [.lit (.bool true)], args := [d1, d2] }
  | _ => none }
def fnRenamedRow : OpenClaim := { program := "ytbdedpodbnhkfaa", sum := "dd6c15a3758242be02218c6cb48baf038f5201668eaafeee8e4237ad5c4ebc38", func := "loop.example/g01112/laws.FnRenamed", spec := "fnRenamed", unfollowed := true, recurses := true, apart := false }
def FnRenamedSaid : Prop := fnRenamedRow.holds Try.pinned (OpenSpec.ofChange fnRenamedSpec)

/-- ITS FALSE NEIGHBOUR: 'it returns false'. Refute it at one input. -/
def fnRenamedWrong : ChangeSpec := { name := "fnRenamed", fn := fun _ => fun
  | [d1, d2] => { results := [.lit (.bool false)], args := [d1, d2] }
  | _ => none }
def FnRenamedWrongFalsely : Prop := fnRenamedRow.holds Try.pinned (OpenSpec.ofChange fnRenamedWrong)

/-- 'laws.FnExactOnlyUses': WHATEVER THE INPUT: true; the input reads as it did. -/
def fnExactOnlyUsesSpec : ChangeSpec := { name := "fnExactOnlyUses", fn := fun _ => fun
  | [d1, d2] => { results := [.lit (.bool true)], args := [d1, d2] }
  | _ => none }
def fnExactOnlyUsesRow : OpenClaim := { program := "ytbdedpodbnhkfaa", sum := "dd6c15a3758242be02218c6cb48baf038f5201668eaafeee8e4237ad5c4ebc38", func := "loop.example/g01112/laws.FnExactOnlyUses", spec := "fnExactOnlyUses", unfollowed := true, recurses := true, apart := false }
def FnExactOnlyUsesSaid : Prop := fnExactOnlyUsesRow.holds Try.pinned (OpenSpec.ofChange fnExactOnlyUsesSpec)

/-- ITS FALSE NEIGHBOUR: 'it returns false'. Refute it at one input. -/
def fnExactOnlyUsesWrong : ChangeSpec := { name := "fnExactOnlyUses", fn := fun _ => fun
  | [d1, d2] => { results := [.lit (.bool false)], args := [d1, d2] }
  | _ => none }
def FnExactOnlyUsesWrongFalsely : Prop := fnExactOnlyUsesRow.holds Try.pinned (OpenSpec.ofChange fnExactOnlyUsesWrong)

/-- 'laws.FnExactUsesOf': WHATEVER THE INPUT: true; the input reads as it did. -/
def fnExactUsesOfSpec : ChangeSpec := { name := "fnExactUsesOf", fn := fun _ => fun
  | [d] => { results := [.lit (.bool true)], args := [d] }
  | _ => none }
def fnExactUsesOfRow : OpenClaim := { program := "ytbdedpodbnhkfaa", sum := "dd6c15a3758242be02218c6cb48baf038f5201668eaafeee8e4237ad5c4ebc38", func := "loop.example/g01112/laws.FnExactUsesOf", spec := "fnExactUsesOf", unfollowed := true, recurses := true, apart := false }
def FnExactUsesOfSaid : Prop := fnExactUsesOfRow.holds Try.pinned (OpenSpec.ofChange fnExactUsesOfSpec)

/-- ITS FALSE NEIGHBOUR: 'it returns false'. Refute it at one input. -/
def fnExactUsesOfWrong : ChangeSpec := { name := "fnExactUsesOf", fn := fun _ => fun
  | [d] => { results := [.lit (.bool false)], args := [d] }
  | _ => none }
def FnExactUsesOfWrongFalsely : Prop := fnExactUsesOfRow.holds Try.pinned (OpenSpec.ofChange fnExactUsesOfWrong)

/-- 'laws.FnExactSeedPolicy': WHATEVER THE INPUT: true; the input reads as it did. -/
def fnExactSeedPolicySpec : ChangeSpec := { name := "fnExactSeedPolicy", fn := fun _ => fun
  | [d1, d2] => { results := [.lit (.bool true)], args := [d1, d2] }
  | _ => none }
def fnExactSeedPolicyRow : OpenClaim := { program := "ytbdedpodbnhkfaa", sum := "dd6c15a3758242be02218c6cb48baf038f5201668eaafeee8e4237ad5c4ebc38", func := "loop.example/g01112/laws.FnExactSeedPolicy", spec := "fnExactSeedPolicy", unfollowed := true, recurses := true, apart := false }
def FnExactSeedPolicySaid : Prop := fnExactSeedPolicyRow.holds Try.pinned (OpenSpec.ofChange fnExactSeedPolicySpec)

/-- ITS FALSE NEIGHBOUR: 'it returns false'. Refute it at one input. -/
def fnExactSeedPolicyWrong : ChangeSpec := { name := "fnExactSeedPolicy", fn := fun _ => fun
  | [d1, d2] => { results := [.lit (.bool false)], args := [d1, d2] }
  | _ => none }
def FnExactSeedPolicyWrongFalsely : Prop := fnExactSeedPolicyRow.holds Try.pinned (OpenSpec.ofChange fnExactSeedPolicyWrong)

/-- 'laws.FnExactMergeTraces': WHATEVER THE INPUT: true; the input reads as it did. -/
def fnExactMergeTracesSpec : ChangeSpec := { name := "fnExactMergeTraces", fn := fun _ => fun
  | [d1, d2, d3] => { results := [.lit (.bool true)], args := [d1, d2, d3] }
  | _ => none }
def fnExactMergeTracesRow : OpenClaim := { program := "ytbdedpodbnhkfaa", sum := "dd6c15a3758242be02218c6cb48baf038f5201668eaafeee8e4237ad5c4ebc38", func := "loop.example/g01112/laws.FnExactMergeTraces", spec := "fnExactMergeTraces", unfollowed := true, recurses := true, apart := false }
def FnExactMergeTracesSaid : Prop := fnExactMergeTracesRow.holds Try.pinned (OpenSpec.ofChange fnExactMergeTracesSpec)

/-- ITS FALSE NEIGHBOUR: 'it returns false'. Refute it at one input. -/
def fnExactMergeTracesWrong : ChangeSpec := { name := "fnExactMergeTraces", fn := fun _ => fun
  | [d1, d2, d3] => { results := [.lit (.bool false)], args := [d1, d2, d3] }
  | _ => none }
def FnExactMergeTracesWrongFalsely : Prop := fnExactMergeTracesRow.holds Try.pinned (OpenSpec.ofChange fnExactMergeTracesWrong)

/- THE SECOND FORM. 'bulk': how many values and letters a reading holds, each counted each time it is reached (what is shared counts as often as it is met; a slice's spare places count too). A statement '..UptoSaid' is the law's where the arguments, and the package variables that the reading takes, are together of bulk at most 1048576: NARROWER than '..Said'. Prove '..Said' where nothing that the law and all that it calls make is longer than what came in: it says more and counts as full. Else prove '..UptoSaid'. A law counts once. -/
mutual
def uptoBulk {H : Type} : DataW H → Nat
  | .lit (.string bytes) => bytes.length + 1
  | .lit _ => 1
  | .nil => 1
  | .ptr d => uptoBulk d + 1
  | .slice elems spare => uptoBulkAll elems + uptoBulkAll spare + 1
  | .agg parts => uptoBulkAll parts + 1
  | .iface _ d => uptoBulk d + 1
  | .map entries => uptoBulkEntries entries + 1
  | .held _ => 1
def uptoBulkAll {H : Type} : List (DataW H) → Nat
  | [] => 0
  | d :: r => uptoBulk d + uptoBulkAll r
def uptoBulkEntries {H : Type} : List (Lit × DataW H) → Nat
  | [] => 0
  | x :: r => uptoBulkEntry x + uptoBulkEntries r
def uptoBulkEntry {H : Type} : Lit × DataW H → Nat
  | (.string bytes, d) => bytes.length + uptoBulk d + 1
  | (_, d) => uptoBulk d + 1
 end
def uptoSmall : (H : Type) → List (DataW H) → Bool := fun _ ds => decide (uptoBulkAll ds ≤ 1048576)
def OpenSpec.upto (s : _root_.Go.ChangeSpec) : _root_.Go.OpenSpec := { _root_.Go.OpenSpec.ofChange s with cond := some uptoSmall }

/-- 'laws.FnNested', WHERE WHAT IT READS IS OF BULK AT MOST 1048576: true; the input reads as it did. -/
def fnNestedUptoRow : OpenClaim := { program := "ytbdedpodbnhkfaa", sum := "dd6c15a3758242be02218c6cb48baf038f5201668eaafeee8e4237ad5c4ebc38", func := "loop.example/g01112/laws.FnNested", spec := "fnNested", unfollowed := true, recurses := true, apart := false, narrowed := true }
def FnNestedUptoSaid : Prop := fnNestedUptoRow.holds Try.pinned (OpenSpec.upto fnNestedSpec)

/-- 'laws.FnExactSeedOrder', WHERE WHAT IT READS IS OF BULK AT MOST 1048576: true; the input reads as it did. -/
def fnExactSeedOrderUptoRow : OpenClaim := { program := "ytbdedpodbnhkfaa", sum := "dd6c15a3758242be02218c6cb48baf038f5201668eaafeee8e4237ad5c4ebc38", func := "loop.example/g01112/laws.FnExactSeedOrder", spec := "fnExactSeedOrder", apart := false, narrowed := true }
def FnExactSeedOrderUptoSaid : Prop := fnExactSeedOrderUptoRow.holds Try.pinned (OpenSpec.upto fnExactSeedOrderSpec)

/-- 'laws.FnExactNextUses', WHERE WHAT IT READS IS OF BULK AT MOST 1048576: true; the input reads as it did. -/
def fnExactNextUsesUptoRow : OpenClaim := { program := "ytbdedpodbnhkfaa", sum := "dd6c15a3758242be02218c6cb48baf038f5201668eaafeee8e4237ad5c4ebc38", func := "loop.example/g01112/laws.FnExactNextUses", spec := "fnExactNextUses", unfollowed := true, recurses := true, apart := false, narrowed := true }
def FnExactNextUsesUptoSaid : Prop := fnExactNextUsesUptoRow.holds Try.pinned (OpenSpec.upto fnExactNextUsesSpec)

/-- 'laws.FnExactGapsOf', WHERE WHAT IT READS IS OF BULK AT MOST 1048576: true; the input reads as it did. -/
def fnExactGapsOfUptoRow : OpenClaim := { program := "ytbdedpodbnhkfaa", sum := "dd6c15a3758242be02218c6cb48baf038f5201668eaafeee8e4237ad5c4ebc38", func := "loop.example/g01112/laws.FnExactGapsOf", spec := "fnExactGapsOf", unfollowed := true, recurses := true, apart := false, narrowed := true }
def FnExactGapsOfUptoSaid : Prop := fnExactGapsOfUptoRow.holds Try.pinned (OpenSpec.upto fnExactGapsOfSpec)

/-- 'laws.FnExactCanonicalUses', WHERE WHAT IT READS IS OF BULK AT MOST 1048576: true; the input reads as it did. -/
def fnExactCanonicalUsesUptoRow : OpenClaim := { program := "ytbdedpodbnhkfaa", sum := "dd6c15a3758242be02218c6cb48baf038f5201668eaafeee8e4237ad5c4ebc38", func := "loop.example/g01112/laws.FnExactCanonicalUses", spec := "fnExactCanonicalUses", unfollowed := true, recurses := true, apart := false, narrowed := true }
def FnExactCanonicalUsesUptoSaid : Prop := fnExactCanonicalUsesUptoRow.holds Try.pinned (OpenSpec.upto fnExactCanonicalUsesSpec)

/-- 'laws.FnExactRunsOf', WHERE WHAT IT READS IS OF BULK AT MOST 1048576: true; the input reads as it did. -/
def fnExactRunsOfUptoRow : OpenClaim := { program := "ytbdedpodbnhkfaa", sum := "dd6c15a3758242be02218c6cb48baf038f5201668eaafeee8e4237ad5c4ebc38", func := "loop.example/g01112/laws.FnExactRunsOf", spec := "fnExactRunsOf", unfollowed := true, recurses := true, apart := false, narrowed := true }
def FnExactRunsOfUptoSaid : Prop := fnExactRunsOfUptoRow.holds Try.pinned (OpenSpec.upto fnExactRunsOfSpec)

/-- 'laws.FnRenamed', WHERE WHAT IT READS IS OF BULK AT MOST 1048576: true; the input reads as it did. -/
def fnRenamedUptoRow : OpenClaim := { program := "ytbdedpodbnhkfaa", sum := "dd6c15a3758242be02218c6cb48baf038f5201668eaafeee8e4237ad5c4ebc38", func := "loop.example/g01112/laws.FnRenamed", spec := "fnRenamed", unfollowed := true, recurses := true, apart := false, narrowed := true }
def FnRenamedUptoSaid : Prop := fnRenamedUptoRow.holds Try.pinned (OpenSpec.upto fnRenamedSpec)

/-- 'laws.FnExactOnlyUses', WHERE WHAT IT READS IS OF BULK AT MOST 1048576: true; the input reads as it did. -/
def fnExactOnlyUsesUptoRow : OpenClaim := { program := "ytbdedpodbnhkfaa", sum := "dd6c15a3758242be02218c6cb48baf038f5201668eaafeee8e4237ad5c4ebc38", func := "loop.example/g01112/laws.FnExactOnlyUses", spec := "fnExactOnlyUses", unfollowed := true, recurses := true, apart := false, narrowed := true }
def FnExactOnlyUsesUptoSaid : Prop := fnExactOnlyUsesUptoRow.holds Try.pinned (OpenSpec.upto fnExactOnlyUsesSpec)

/-- 'laws.FnExactUsesOf', WHERE WHAT IT READS IS OF BULK AT MOST 1048576: true; the input reads as it did. -/
def fnExactUsesOfUptoRow : OpenClaim := { program := "ytbdedpodbnhkfaa", sum := "dd6c15a3758242be02218c6cb48baf038f5201668eaafeee8e4237ad5c4ebc38", func := "loop.example/g01112/laws.FnExactUsesOf", spec := "fnExactUsesOf", unfollowed := true, recurses := true, apart := false, narrowed := true }
def FnExactUsesOfUptoSaid : Prop := fnExactUsesOfUptoRow.holds Try.pinned (OpenSpec.upto fnExactUsesOfSpec)

/-- 'laws.FnExactSeedPolicy', WHERE WHAT IT READS IS OF BULK AT MOST 1048576: true; the input reads as it did. -/
def fnExactSeedPolicyUptoRow : OpenClaim := { program := "ytbdedpodbnhkfaa", sum := "dd6c15a3758242be02218c6cb48baf038f5201668eaafeee8e4237ad5c4ebc38", func := "loop.example/g01112/laws.FnExactSeedPolicy", spec := "fnExactSeedPolicy", unfollowed := true, recurses := true, apart := false, narrowed := true }
def FnExactSeedPolicyUptoSaid : Prop := fnExactSeedPolicyUptoRow.holds Try.pinned (OpenSpec.upto fnExactSeedPolicySpec)

/-- 'laws.FnExactMergeTraces', WHERE WHAT IT READS IS OF BULK AT MOST 1048576: true; the input reads as it did. -/
def fnExactMergeTracesUptoRow : OpenClaim := { program := "ytbdedpodbnhkfaa", sum := "dd6c15a3758242be02218c6cb48baf038f5201668eaafeee8e4237ad5c4ebc38", func := "loop.example/g01112/laws.FnExactMergeTraces", spec := "fnExactMergeTraces", unfollowed := true, recurses := true, apart := false, narrowed := true }
def FnExactMergeTracesUptoSaid : Prop := fnExactMergeTracesUptoRow.holds Try.pinned (OpenSpec.upto fnExactMergeTracesSpec)

end Rows
end Go.Proofs.Ytbdedpodbnhkfaa
