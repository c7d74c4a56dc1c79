/-
  No cell of these rows narrows 'for every input' (looked for: loops, veiled, ifaces, maps, wideKeys, modest, calm, conditions, laid).
  DERIVED. THE GIVEN ROWS OF THIS SEAT. 6 by the template 'for every input the law returns true; each argument reads behind the call as it read before'; 0 by the template 'total and deterministic' (their statements: YtigbabolmahlaaaTotals.lean).
  GIVEN WITH THE SEED: the statements are not yours to turn. If you find one false, say at which input.
  Laid BY PROGRAM, IN A SANDBOX (cutbox-rows.mjs): the forced cells as the released guide's own fill.sh prints them over the translation 020c77c8ae49ad21… (all of the seat's roots in one cut). By AI agents, Wed Nov 11 2026. No macro, syntax, notation, axiom, sorry.
-/
import Derived.Test.YtigbabolmahlaaaChecked
import GoSem.Claim
import GoSem.ClaimJoined
import GoSem.ClaimMapViews
import Derived.JoinedTies
import Derived.KernelRfl
namespace Go.Proofs.Ytigbabolmahlaaa
/- THE CELL 'sum', in the pinned program and in every row, IS THE sha256 OF THE DUMP (.gsa) THAT YtigbabolmahlaaaProg.lean LOADS. Nothing in Lean hashes anything: it is a label: what it is worth is what the hold of that sum in a sandbox is worth. -/
noncomputable def Try.pinned : Pinned := { name := "ytigbabolmahlaaa", sum := "020c77c8ae49ad21d03f31c0e8f01fdd39a46361bfcfa725f43385aec1ecd9aa", checked := Try.checked }
namespace Rows
def none {H : Type} : Left H := { results := [], args := [] }

/-- 'laws.FnExactTreePolicy': WHATEVER THE INPUT: true; the input reads as it did. -/
def fnExactTreePolicySpec : ChangeSpec := { name := "fnExactTreePolicy", fn := fun _ => fun
  | [d] => { results := [.lit (.bool true)], args := [d] }
  | _ => none }
def fnExactTreePolicyRow : OpenClaim := { program := "ytigbabolmahlaaa", sum := "020c77c8ae49ad21d03f31c0e8f01fdd39a46361bfcfa725f43385aec1ecd9aa", func := "loop.example/g01112/laws.FnExactTreePolicy", spec := "fnExactTreePolicy", unfollowed := true, recurses := true, apart := false }
def FnExactTreePolicySaid : Prop := fnExactTreePolicyRow.holds Try.pinned (OpenSpec.ofChange fnExactTreePolicySpec)

/-- ITS FALSE NEIGHBOUR: 'it returns false'. Refute it at one input. -/
def fnExactTreePolicyWrong : ChangeSpec := { name := "fnExactTreePolicy", fn := fun _ => fun
  | [d] => { results := [.lit (.bool false)], args := [d] }
  | _ => none }
def FnExactTreePolicyWrongFalsely : Prop := fnExactTreePolicyRow.holds Try.pinned (OpenSpec.ofChange fnExactTreePolicyWrong)

/-- 'laws.FnExactFromRuns': WHATEVER THE INPUT: true; the input reads as it did. -/
def fnExactFromRunsSpec : ChangeSpec := { name := "fnExactFromRuns", fn := fun _ => fun
  | [d] => { results := [.lit (.bool true)], args := [d] }
  | _ => none }
def fnExactFromRunsRow : OpenClaim := { program := "ytigbabolmahlaaa", sum := "020c77c8ae49ad21d03f31c0e8f01fdd39a46361bfcfa725f43385aec1ecd9aa", func := "loop.example/g01112/laws.FnExactFromRuns", spec := "fnExactFromRuns", unfollowed := true, recurses := true, apart := false }
def FnExactFromRunsSaid : Prop := fnExactFromRunsRow.holds Try.pinned (OpenSpec.ofChange fnExactFromRunsSpec)

/-- ITS FALSE NEIGHBOUR: 'it returns false'. Refute it at one input. -/
def fnExactFromRunsWrong : ChangeSpec := { name := "fnExactFromRuns", fn := fun _ => fun
  | [d] => { results := [.lit (.bool false)], args := [d] }
  | _ => none }
def FnExactFromRunsWrongFalsely : Prop := fnExactFromRunsRow.holds Try.pinned (OpenSpec.ofChange fnExactFromRunsWrong)

/-- 'laws.FnExactNestTrace': WHATEVER THE INPUT: true; the input reads as it did. -/
def fnExactNestTraceSpec : ChangeSpec := { name := "fnExactNestTrace", fn := fun _ => fun
  | [d] => { results := [.lit (.bool true)], args := [d] }
  | _ => none }
def fnExactNestTraceRow : OpenClaim := { program := "ytigbabolmahlaaa", sum := "020c77c8ae49ad21d03f31c0e8f01fdd39a46361bfcfa725f43385aec1ecd9aa", func := "loop.example/g01112/laws.FnExactNestTrace", spec := "fnExactNestTrace", unfollowed := true, recurses := true, apart := false }
def FnExactNestTraceSaid : Prop := fnExactNestTraceRow.holds Try.pinned (OpenSpec.ofChange fnExactNestTraceSpec)

/-- ITS FALSE NEIGHBOUR: 'it returns false'. Refute it at one input. -/
def fnExactNestTraceWrong : ChangeSpec := { name := "fnExactNestTrace", fn := fun _ => fun
  | [d] => { results := [.lit (.bool false)], args := [d] }
  | _ => none }
def FnExactNestTraceWrongFalsely : Prop := fnExactNestTraceRow.holds Try.pinned (OpenSpec.ofChange fnExactNestTraceWrong)

/-- 'laws.FnExactLruPolicy': WHATEVER THE INPUT: true; the input reads as it did. -/
def fnExactLruPolicySpec : ChangeSpec := { name := "fnExactLruPolicy", fn := fun _ => fun
  | [d] => { results := [.lit (.bool true)], args := [d] }
  | _ => none }
def fnExactLruPolicyRow : OpenClaim := { program := "ytigbabolmahlaaa", sum := "020c77c8ae49ad21d03f31c0e8f01fdd39a46361bfcfa725f43385aec1ecd9aa", func := "loop.example/g01112/laws.FnExactLruPolicy", spec := "fnExactLruPolicy", inPlace := ["slices.overlaps[int64]"], unfollowed := true, recurses := true, apart := false }
def FnExactLruPolicySaid : Prop := fnExactLruPolicyRow.holds Try.pinned (OpenSpec.ofChange fnExactLruPolicySpec)

/-- ITS FALSE NEIGHBOUR: 'it returns false'. Refute it at one input. -/
def fnExactLruPolicyWrong : ChangeSpec := { name := "fnExactLruPolicy", fn := fun _ => fun
  | [d] => { results := [.lit (.bool false)], args := [d] }
  | _ => none }
def FnExactLruPolicyWrongFalsely : Prop := fnExactLruPolicyRow.holds Try.pinned (OpenSpec.ofChange fnExactLruPolicyWrong)

/-- 'laws.FnExactMruPolicy': WHATEVER THE INPUT: true; the input reads as it did. -/
def fnExactMruPolicySpec : ChangeSpec := { name := "fnExactMruPolicy", fn := fun _ => fun
  | [d] => { results := [.lit (.bool true)], args := [d] }
  | _ => none }
def fnExactMruPolicyRow : OpenClaim := { program := "ytigbabolmahlaaa", sum := "020c77c8ae49ad21d03f31c0e8f01fdd39a46361bfcfa725f43385aec1ecd9aa", func := "loop.example/g01112/laws.FnExactMruPolicy", spec := "fnExactMruPolicy", inPlace := ["slices.overlaps[int64]"], unfollowed := true, recurses := true, apart := false }
def FnExactMruPolicySaid : Prop := fnExactMruPolicyRow.holds Try.pinned (OpenSpec.ofChange fnExactMruPolicySpec)

/-- ITS FALSE NEIGHBOUR: 'it returns false'. Refute it at one input. -/
def fnExactMruPolicyWrong : ChangeSpec := { name := "fnExactMruPolicy", fn := fun _ => fun
  | [d] => { results := [.lit (.bool false)], args := [d] }
  | _ => none }
def FnExactMruPolicyWrongFalsely : Prop := fnExactMruPolicyRow.holds Try.pinned (OpenSpec.ofChange fnExactMruPolicyWrong)

/-- 'laws.FnExactFifoPolicy': WHATEVER THE INPUT: true; the input reads as it did. -/
def fnExactFifoPolicySpec : ChangeSpec := { name := "fnExactFifoPolicy", fn := fun _ => fun
  | [d] => { results := [.lit (.bool true)], args := [d] }
  | _ => none }
def fnExactFifoPolicyRow : OpenClaim := { program := "ytigbabolmahlaaa", sum := "020c77c8ae49ad21d03f31c0e8f01fdd39a46361bfcfa725f43385aec1ecd9aa", func := "loop.example/g01112/laws.FnExactFifoPolicy", spec := "fnExactFifoPolicy", inPlace := ["slices.overlaps[int64]"], unfollowed := true, recurses := true, apart := false }
def FnExactFifoPolicySaid : Prop := fnExactFifoPolicyRow.holds Try.pinned (OpenSpec.ofChange fnExactFifoPolicySpec)

/-- ITS FALSE NEIGHBOUR: 'it returns false'. Refute it at one input. -/
def fnExactFifoPolicyWrong : ChangeSpec := { name := "fnExactFifoPolicy", fn := fun _ => fun
  | [d] => { results := [.lit (.bool false)], args := [d] }
  | _ => none }
def FnExactFifoPolicyWrongFalsely : Prop := fnExactFifoPolicyRow.holds Try.pinned (OpenSpec.ofChange fnExactFifoPolicyWrong)

/- THE SECOND FORM. 'bulk': how many values and letters a reading holds, each counted each time it is reached (what is shared counts as often as it is met; a slice's spare places count too). A statement '..UptoSaid' is the law's where the arguments, and the package variables that the reading takes, are together of bulk at most 1048576: NARROWER than '..Said'. Prove '..Said' where nothing that the law and all that it calls make is longer than what came in: it says more and counts as full. Else prove '..UptoSaid'. A law counts once. -/
mutual
def uptoBulk {H : Type} : DataW H → Nat
  | .lit (.string bytes) => bytes.length + 1
  | .lit _ => 1
  | .nil => 1
  | .ptr d => uptoBulk d + 1
  | .slice elems spare => uptoBulkAll elems + uptoBulkAll spare + 1
  | .agg parts => uptoBulkAll parts + 1
  | .iface _ d => uptoBulk d + 1
  | .map entries => uptoBulkEntries entries + 1
  | .held _ => 1
def uptoBulkAll {H : Type} : List (DataW H) → Nat
  | [] => 0
  | d :: r => uptoBulk d + uptoBulkAll r
def uptoBulkEntries {H : Type} : List (Lit × DataW H) → Nat
  | [] => 0
  | x :: r => uptoBulkEntry x + uptoBulkEntries r
def uptoBulkEntry {H : Type} : Lit × DataW H → Nat
  | (.string bytes, d) => bytes.length + uptoBulk d + 1
  | (_, d) => uptoBulk d + 1
 end
def uptoSmall : (H : Type) → List (DataW H) → Bool := fun _ ds => decide (uptoBulkAll ds ≤ 1048576)
def OpenSpec.upto (s : _root_.Go.ChangeSpec) : _root_.Go.OpenSpec := { _root_.Go.OpenSpec.ofChange s with cond := some uptoSmall }

/-- 'laws.FnExactTreePolicy', WHERE WHAT IT READS IS OF BULK AT MOST 1048576: true; the input reads as it did. -/
def fnExactTreePolicyUptoRow : OpenClaim := { program := "ytigbabolmahlaaa", sum := "020c77c8ae49ad21d03f31c0e8f01fdd39a46361bfcfa725f43385aec1ecd9aa", func := "loop.example/g01112/laws.FnExactTreePolicy", spec := "fnExactTreePolicy", unfollowed := true, recurses := true, apart := false, narrowed := true }
def FnExactTreePolicyUptoSaid : Prop := fnExactTreePolicyUptoRow.holds Try.pinned (OpenSpec.upto fnExactTreePolicySpec)

/-- 'laws.FnExactFromRuns', WHERE WHAT IT READS IS OF BULK AT MOST 1048576: true; the input reads as it did. -/
def fnExactFromRunsUptoRow : OpenClaim := { program := "ytigbabolmahlaaa", sum := "020c77c8ae49ad21d03f31c0e8f01fdd39a46361bfcfa725f43385aec1ecd9aa", func := "loop.example/g01112/laws.FnExactFromRuns", spec := "fnExactFromRuns", unfollowed := true, recurses := true, apart := false, narrowed := true }
def FnExactFromRunsUptoSaid : Prop := fnExactFromRunsUptoRow.holds Try.pinned (OpenSpec.upto fnExactFromRunsSpec)

/-- 'laws.FnExactNestTrace', WHERE WHAT IT READS IS OF BULK AT MOST 1048576: true; the input reads as it did. -/
def fnExactNestTraceUptoRow : OpenClaim := { program := "ytigbabolmahlaaa", sum := "020c77c8ae49ad21d03f31c0e8f01fdd39a46361bfcfa725f43385aec1ecd9aa", func := "loop.example/g01112/laws.FnExactNestTrace", spec := "fnExactNestTrace", unfollowed := true, recurses := true, apart := false, narrowed := true }
def FnExactNestTraceUptoSaid : Prop := fnExactNestTraceUptoRow.holds Try.pinned (OpenSpec.upto fnExactNestTraceSpec)

/-- 'laws.FnExactLruPolicy', WHERE WHAT IT READS IS OF BULK AT MOST 1048576: true; the input reads as it did. -/
def fnExactLruPolicyUptoRow : OpenClaim := { program := "ytigbabolmahlaaa", sum := "020c77c8ae49ad21d03f31c0e8f01fdd39a46361bfcfa725f43385aec1ecd9aa", func := "loop.example/g01112/laws.FnExactLruPolicy", spec := "fnExactLruPolicy", inPlace := ["slices.overlaps[int64]"], unfollowed := true, recurses := true, apart := false, narrowed := true }
def FnExactLruPolicyUptoSaid : Prop := fnExactLruPolicyUptoRow.holds Try.pinned (OpenSpec.upto fnExactLruPolicySpec)

/-- 'laws.FnExactMruPolicy', WHERE WHAT IT READS IS OF BULK AT MOST 1048576: true; the input reads as it did. -/
def fnExactMruPolicyUptoRow : OpenClaim := { program := "ytigbabolmahlaaa", sum := "020c77c8ae49ad21d03f31c0e8f01fdd39a46361bfcfa725f43385aec1ecd9aa", func := "loop.example/g01112/laws.FnExactMruPolicy", spec := "fnExactMruPolicy", inPlace := ["slices.overlaps[int64]"], unfollowed := true, recurses := true, apart := false, narrowed := true }
def FnExactMruPolicyUptoSaid : Prop := fnExactMruPolicyUptoRow.holds Try.pinned (OpenSpec.upto fnExactMruPolicySpec)

/-- 'laws.FnExactFifoPolicy', WHERE WHAT IT READS IS OF BULK AT MOST 1048576: true; the input reads as it did. -/
def fnExactFifoPolicyUptoRow : OpenClaim := { program := "ytigbabolmahlaaa", sum := "020c77c8ae49ad21d03f31c0e8f01fdd39a46361bfcfa725f43385aec1ecd9aa", func := "loop.example/g01112/laws.FnExactFifoPolicy", spec := "fnExactFifoPolicy", inPlace := ["slices.overlaps[int64]"], unfollowed := true, recurses := true, apart := false, narrowed := true }
def FnExactFifoPolicyUptoSaid : Prop := fnExactFifoPolicyUptoRow.holds Try.pinned (OpenSpec.upto fnExactFifoPolicySpec)

end Rows
end Go.Proofs.Ytigbabolmahlaaa
