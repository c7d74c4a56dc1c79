/-
  No cell of these rows narrows 'for every input' (looked for: loops, veiled, ifaces, maps, wideKeys, modest, calm, conditions, laid).
  DERIVED. THE GIVEN ROWS OF THIS SEAT. 12 by the template 'for every input the law returns true; each argument reads behind the call as it read before'; 0 by the template 'total and deterministic' (their statements: YteeigkopaglcnaaTotals.lean).
  GIVEN WITH THE SEED: the statements are not yours to turn. If you find one false, say at which input.
  Laid BY PROGRAM, IN A SANDBOX (cutbox-rows.mjs): the forced cells as the released guide's own fill.sh prints them over the translation 84084d79d0ee972d… (all of the seat's roots in one cut). By AI agents, Wed Nov 11 2026. No macro, syntax, notation, axiom, sorry.
-/
import Derived.Test.YteeigkopaglcnaaChecked
import GoSem.Claim
import GoSem.ClaimJoined
import GoSem.ClaimMapViews
import Derived.JoinedTies
import Derived.KernelRfl
namespace Go.Proofs.Yteeigkopaglcnaa
/- THE CELL 'sum', in the pinned program and in every row, IS THE sha256 OF THE DUMP (.gsa) THAT YteeigkopaglcnaaProg.lean LOADS. Nothing in Lean hashes anything: it is a label: what it is worth is what the hold of that sum in a sandbox is worth. -/
noncomputable def Try.pinned : Pinned := { name := "yteeigkopaglcnaa", sum := "84084d79d0ee972d1f88d08e68a27c35d72d0aec84f93c9a0bdec9d2db466262", checked := Try.checked }
namespace Rows
def none {H : Type} : Left H := { results := [], args := [] }

/-- 'laws.FnExactConstants': WHATEVER THE INPUT: true; the input reads as it did. -/
def fnExactConstantsSpec : ChangeSpec := { name := "fnExactConstants", fn := fun _ => fun
  | [] => { results := [.lit (.bool true)], args := [] }
  | _ => none }
def fnExactConstantsRow : OpenClaim := { program := "yteeigkopaglcnaa", sum := "84084d79d0ee972d1f88d08e68a27c35d72d0aec84f93c9a0bdec9d2db466262", func := "loop.example/g01112/laws.FnExactConstants", spec := "fnExactConstants", apart := false }
def FnExactConstantsSaid : Prop := fnExactConstantsRow.holds Try.pinned (OpenSpec.ofChange fnExactConstantsSpec)

/-- ITS FALSE NEIGHBOUR: 'it returns false'. Refute it at one input. -/
def fnExactConstantsWrong : ChangeSpec := { name := "fnExactConstants", fn := fun _ => fun
  | [] => { results := [.lit (.bool false)], args := [] }
  | _ => none }
def FnExactConstantsWrongFalsely : Prop := fnExactConstantsRow.holds Try.pinned (OpenSpec.ofChange fnExactConstantsWrong)

/-- 'laws.FnExactCheckLetters': WHATEVER THE INPUT: true; the input reads as it did. -/
def fnExactCheckLettersSpec : ChangeSpec := { name := "fnExactCheckLetters", fn := fun _ => fun
  | [d] => { results := [.lit (.bool true)], args := [d] }
  | _ => none }
def fnExactCheckLettersRow : OpenClaim := { program := "yteeigkopaglcnaa", sum := "84084d79d0ee972d1f88d08e68a27c35d72d0aec84f93c9a0bdec9d2db466262", func := "loop.example/g01112/laws.FnExactCheckLetters", spec := "fnExactCheckLetters", apart := false }
def FnExactCheckLettersSaid : Prop := fnExactCheckLettersRow.holds Try.pinned (OpenSpec.ofChange fnExactCheckLettersSpec)

/-- ITS FALSE NEIGHBOUR: 'it returns false'. Refute it at one input. -/
def fnExactCheckLettersWrong : ChangeSpec := { name := "fnExactCheckLetters", fn := fun _ => fun
  | [d] => { results := [.lit (.bool false)], args := [d] }
  | _ => none }
def FnExactCheckLettersWrongFalsely : Prop := fnExactCheckLettersRow.holds Try.pinned (OpenSpec.ofChange fnExactCheckLettersWrong)

/-- 'laws.FnExactIsName': WHATEVER THE INPUT: true; the input reads as it did. -/
def fnExactIsNameSpec : ChangeSpec := { name := "fnExactIsName", fn := fun _ => fun
  | [d] => { results := [.lit (.bool true)], args := [d] }
  | _ => none }
def fnExactIsNameRow : OpenClaim := { program := "yteeigkopaglcnaa", sum := "84084d79d0ee972d1f88d08e68a27c35d72d0aec84f93c9a0bdec9d2db466262", func := "loop.example/g01112/laws.FnExactIsName", spec := "fnExactIsName", apart := false }
def FnExactIsNameSaid : Prop := fnExactIsNameRow.holds Try.pinned (OpenSpec.ofChange fnExactIsNameSpec)

/-- ITS FALSE NEIGHBOUR: 'it returns false'. Refute it at one input. -/
def fnExactIsNameWrong : ChangeSpec := { name := "fnExactIsName", fn := fun _ => fun
  | [d] => { results := [.lit (.bool false)], args := [d] }
  | _ => none }
def FnExactIsNameWrongFalsely : Prop := fnExactIsNameRow.holds Try.pinned (OpenSpec.ofChange fnExactIsNameWrong)

/-- 'laws.FnExactNextSeed': WHATEVER THE INPUT: true; the input reads as it did. -/
def fnExactNextSeedSpec : ChangeSpec := { name := "fnExactNextSeed", fn := fun _ => fun
  | [d] => { results := [.lit (.bool true)], args := [d] }
  | _ => none }
def fnExactNextSeedRow : OpenClaim := { program := "yteeigkopaglcnaa", sum := "84084d79d0ee972d1f88d08e68a27c35d72d0aec84f93c9a0bdec9d2db466262", func := "loop.example/g01112/laws.FnExactNextSeed", spec := "fnExactNextSeed", apart := false }
def FnExactNextSeedSaid : Prop := fnExactNextSeedRow.holds Try.pinned (OpenSpec.ofChange fnExactNextSeedSpec)

/-- ITS FALSE NEIGHBOUR: 'it returns false'. Refute it at one input. -/
def fnExactNextSeedWrong : ChangeSpec := { name := "fnExactNextSeed", fn := fun _ => fun
  | [d] => { results := [.lit (.bool false)], args := [d] }
  | _ => none }
def FnExactNextSeedWrongFalsely : Prop := fnExactNextSeedRow.holds Try.pinned (OpenSpec.ofChange fnExactNextSeedWrong)

/-- 'laws.FnExactReduceRatio': WHATEVER THE INPUT: true; the input reads as it did. -/
def fnExactReduceRatioSpec : ChangeSpec := { name := "fnExactReduceRatio", fn := fun _ => fun
  | [d1, d2] => { results := [.lit (.bool true)], args := [d1, d2] }
  | _ => none }
def fnExactReduceRatioRow : OpenClaim := { program := "yteeigkopaglcnaa", sum := "84084d79d0ee972d1f88d08e68a27c35d72d0aec84f93c9a0bdec9d2db466262", func := "loop.example/g01112/laws.FnExactReduceRatio", spec := "fnExactReduceRatio", apart := false }
def FnExactReduceRatioSaid : Prop := fnExactReduceRatioRow.holds Try.pinned (OpenSpec.ofChange fnExactReduceRatioSpec)

/-- ITS FALSE NEIGHBOUR: 'it returns false'. Refute it at one input. -/
def fnExactReduceRatioWrong : ChangeSpec := { name := "fnExactReduceRatio", fn := fun _ => fun
  | [d1, d2] => { results := [.lit (.bool false)], args := [d1, d2] }
  | _ => none }
def FnExactReduceRatioWrongFalsely : Prop := fnExactReduceRatioRow.holds Try.pinned (OpenSpec.ofChange fnExactReduceRatioWrong)

/-- 'laws.FnExactCompareRatios': WHATEVER THE INPUT: true; the input reads as it did. -/
def fnExactCompareRatiosSpec : ChangeSpec := { name := "fnExactCompareRatios", fn := fun _ => fun
  | [d1, d2, d3, d4] => { results := [.lit (.bool true)], args := [d1, d2, d3, d4] }
  | _ => none }
def fnExactCompareRatiosRow : OpenClaim := { program := "yteeigkopaglcnaa", sum := "84084d79d0ee972d1f88d08e68a27c35d72d0aec84f93c9a0bdec9d2db466262", func := "loop.example/g01112/laws.FnExactCompareRatios", spec := "fnExactCompareRatios", apart := false }
def FnExactCompareRatiosSaid : Prop := fnExactCompareRatiosRow.holds Try.pinned (OpenSpec.ofChange fnExactCompareRatiosSpec)

/-- ITS FALSE NEIGHBOUR: 'it returns false'. Refute it at one input. -/
def fnExactCompareRatiosWrong : ChangeSpec := { name := "fnExactCompareRatios", fn := fun _ => fun
  | [d1, d2, d3, d4] => { results := [.lit (.bool false)], args := [d1, d2, d3, d4] }
  | _ => none }
def FnExactCompareRatiosWrongFalsely : Prop := fnExactCompareRatiosRow.holds Try.pinned (OpenSpec.ofChange fnExactCompareRatiosWrong)

/-- 'laws.FnExactValidUses': WHATEVER THE INPUT: true; the input reads as it did. -/
def fnExactValidUsesSpec : ChangeSpec := { name := "fnExactValidUses", fn := fun _ => fun
  | [d] => { results := [.lit (.bool true)], args := [d] }
  | _ => none }
def fnExactValidUsesRow : OpenClaim := { program := "yteeigkopaglcnaa", sum := "84084d79d0ee972d1f88d08e68a27c35d72d0aec84f93c9a0bdec9d2db466262", func := "loop.example/g01112/laws.FnExactValidUses", spec := "fnExactValidUses", unfollowed := true, recurses := true, apart := false }
def FnExactValidUsesSaid : Prop := fnExactValidUsesRow.holds Try.pinned (OpenSpec.ofChange fnExactValidUsesSpec)

/-- ITS FALSE NEIGHBOUR: 'it returns false'. Refute it at one input. -/
def fnExactValidUsesWrong : ChangeSpec := { name := "fnExactValidUses", fn := fun _ => fun
  | [d] => { results := [.lit (.bool false)], args := [d] }
  | _ => none }
def FnExactValidUsesWrongFalsely : Prop := fnExactValidUsesRow.holds Try.pinned (OpenSpec.ofChange fnExactValidUsesWrong)

/-- 'laws.FnParity': WHATEVER THE INPUT: true; the input reads as it did. -/
def fnParitySpec : ChangeSpec := { name := "fnParity", fn := fun _ => fun
  | [d1, d2] => { results := [.lit (.bool true)], args := [d1, d2] }
  | _ => none }
def fnParityRow : OpenClaim := { program := "yteeigkopaglcnaa", sum := "84084d79d0ee972d1f88d08e68a27c35d72d0aec84f93c9a0bdec9d2db466262", func := "loop.example/g01112/laws.FnParity", spec := "fnParity", apart := false }
def FnParitySaid : Prop := fnParityRow.holds Try.pinned (OpenSpec.ofChange fnParitySpec)

/-- ITS FALSE NEIGHBOUR: 'it returns false'. Refute it at one input. -/
def fnParityWrong : ChangeSpec := { name := "fnParity", fn := fun _ => fun
  | [d1, d2] => { results := [.lit (.bool false)], args := [d1, d2] }
  | _ => none }
def FnParityWrongFalsely : Prop := fnParityRow.holds Try.pinned (OpenSpec.ofChange fnParityWrong)

/-- 'laws.FnExactParityOf': WHATEVER THE INPUT: true; the input reads as it did. -/
def fnExactParityOfSpec : ChangeSpec := { name := "fnExactParityOf", fn := fun _ => fun
  | [d1, d2] => { results := [.lit (.bool true)], args := [d1, d2] }
  | _ => none }
def fnExactParityOfRow : OpenClaim := { program := "yteeigkopaglcnaa", sum := "84084d79d0ee972d1f88d08e68a27c35d72d0aec84f93c9a0bdec9d2db466262", func := "loop.example/g01112/laws.FnExactParityOf", spec := "fnExactParityOf", apart := false }
def FnExactParityOfSaid : Prop := fnExactParityOfRow.holds Try.pinned (OpenSpec.ofChange fnExactParityOfSpec)

/-- ITS FALSE NEIGHBOUR: 'it returns false'. Refute it at one input. -/
def fnExactParityOfWrong : ChangeSpec := { name := "fnExactParityOf", fn := fun _ => fun
  | [d1, d2] => { results := [.lit (.bool false)], args := [d1, d2] }
  | _ => none }
def FnExactParityOfWrongFalsely : Prop := fnExactParityOfRow.holds Try.pinned (OpenSpec.ofChange fnExactParityOfWrong)

/-- 'laws.FnExactSeedList': WHATEVER THE INPUT: true; the input reads as it did. -/
def fnExactSeedListSpec : ChangeSpec := { name := "fnExactSeedList", fn := fun _ => fun
  | [d1, d2, d3] => { results := [.lit (.bool true)], args := [d1, d2, d3] }
  | _ => none }
def fnExactSeedListRow : OpenClaim := { program := "yteeigkopaglcnaa", sum := "84084d79d0ee972d1f88d08e68a27c35d72d0aec84f93c9a0bdec9d2db466262", func := "loop.example/g01112/laws.FnExactSeedList", spec := "fnExactSeedList", apart := false }
def FnExactSeedListSaid : Prop := fnExactSeedListRow.holds Try.pinned (OpenSpec.ofChange fnExactSeedListSpec)

/-- ITS FALSE NEIGHBOUR: 'it returns false'. Refute it at one input. -/
def fnExactSeedListWrong : ChangeSpec := { name := "fnExactSeedList", fn := fun _ => fun
  | [d1, d2, d3] => { results := [.lit (.bool false)], args := [d1, d2, d3] }
  | _ => none }
def FnExactSeedListWrongFalsely : Prop := fnExactSeedListRow.holds Try.pinned (OpenSpec.ofChange fnExactSeedListWrong)

/-- 'laws.FnSeeds': WHATEVER THE INPUT: true; the input reads as it did. -/
def fnSeedsSpec : ChangeSpec := { name := "fnSeeds", fn := fun _ => fun
  | [d1, d2] => { results := [.lit (.bool true)], args := [d1, d2] }
  | _ => none }
def fnSeedsRow : OpenClaim := { program := "yteeigkopaglcnaa", sum := "84084d79d0ee972d1f88d08e68a27c35d72d0aec84f93c9a0bdec9d2db466262", func := "loop.example/g01112/laws.FnSeeds", spec := "fnSeeds", apart := false }
def FnSeedsSaid : Prop := fnSeedsRow.holds Try.pinned (OpenSpec.ofChange fnSeedsSpec)

/-- ITS FALSE NEIGHBOUR: 'it returns false'. Refute it at one input. -/
def fnSeedsWrong : ChangeSpec := { name := "fnSeeds", fn := fun _ => fun
  | [d1, d2] => { results := [.lit (.bool false)], args := [d1, d2] }
  | _ => none }
def FnSeedsWrongFalsely : Prop := fnSeedsRow.holds Try.pinned (OpenSpec.ofChange fnSeedsWrong)

/-- 'laws.FnExactValidTrace': WHATEVER THE INPUT: true; the input reads as it did. -/
def fnExactValidTraceSpec : ChangeSpec := { name := "fnExactValidTrace", fn := fun _ => fun
  | [d] => { results := [.lit (.bool true)], args := [d] }
  | _ => none }
def fnExactValidTraceRow : OpenClaim := { program := "yteeigkopaglcnaa", sum := "84084d79d0ee972d1f88d08e68a27c35d72d0aec84f93c9a0bdec9d2db466262", func := "loop.example/g01112/laws.FnExactValidTrace", spec := "fnExactValidTrace", unfollowed := true, recurses := true, apart := false }
def FnExactValidTraceSaid : Prop := fnExactValidTraceRow.holds Try.pinned (OpenSpec.ofChange fnExactValidTraceSpec)

/-- ITS FALSE NEIGHBOUR: 'it returns false'. Refute it at one input. -/
def fnExactValidTraceWrong : ChangeSpec := { name := "fnExactValidTrace", fn := fun _ => fun
  | [d] => { results := [.lit (.bool false)], args := [d] }
  | _ => none }
def FnExactValidTraceWrongFalsely : Prop := fnExactValidTraceRow.holds Try.pinned (OpenSpec.ofChange fnExactValidTraceWrong)

/- THE SECOND FORM. 'bulk': how many values and letters a reading holds, each counted each time it is reached (what is shared counts as often as it is met; a slice's spare places count too). A statement '..UptoSaid' is the law's where the arguments, and the package variables that the reading takes, are together of bulk at most 1048576: NARROWER than '..Said'. Prove '..Said' where nothing that the law and all that it calls make is longer than what came in: it says more and counts as full. Else prove '..UptoSaid'. A law counts once. -/
mutual
def uptoBulk {H : Type} : DataW H → Nat
  | .lit (.string bytes) => bytes.length + 1
  | .lit _ => 1
  | .nil => 1
  | .ptr d => uptoBulk d + 1
  | .slice elems spare => uptoBulkAll elems + uptoBulkAll spare + 1
  | .agg parts => uptoBulkAll parts + 1
  | .iface _ d => uptoBulk d + 1
  | .map entries => uptoBulkEntries entries + 1
  | .held _ => 1
def uptoBulkAll {H : Type} : List (DataW H) → Nat
  | [] => 0
  | d :: r => uptoBulk d + uptoBulkAll r
def uptoBulkEntries {H : Type} : List (Lit × DataW H) → Nat
  | [] => 0
  | x :: r => uptoBulkEntry x + uptoBulkEntries r
def uptoBulkEntry {H : Type} : Lit × DataW H → Nat
  | (.string bytes, d) => bytes.length + uptoBulk d + 1
  | (_, d) => uptoBulk d + 1
 end
def uptoSmall : (H : Type) → List (DataW H) → Bool := fun _ ds => decide (uptoBulkAll ds ≤ 1048576)
def OpenSpec.upto (s : _root_.Go.ChangeSpec) : _root_.Go.OpenSpec := { _root_.Go.OpenSpec.ofChange s with cond := some uptoSmall }

/-- 'laws.FnExactConstants', WHERE WHAT IT READS IS OF BULK AT MOST 1048576: true; the input reads as it did. -/
def fnExactConstantsUptoRow : OpenClaim := { program := "yteeigkopaglcnaa", sum := "84084d79d0ee972d1f88d08e68a27c35d72d0aec84f93c9a0bdec9d2db466262", func := "loop.example/g01112/laws.FnExactConstants", spec := "fnExactConstants", apart := false, narrowed := true }
def FnExactConstantsUptoSaid : Prop := fnExactConstantsUptoRow.holds Try.pinned (OpenSpec.upto fnExactConstantsSpec)

/-- 'laws.FnExactCheckLetters', WHERE WHAT IT READS IS OF BULK AT MOST 1048576: true; the input reads as it did. -/
def fnExactCheckLettersUptoRow : OpenClaim := { program := "yteeigkopaglcnaa", sum := "84084d79d0ee972d1f88d08e68a27c35d72d0aec84f93c9a0bdec9d2db466262", func := "loop.example/g01112/laws.FnExactCheckLetters", spec := "fnExactCheckLetters", apart := false, narrowed := true }
def FnExactCheckLettersUptoSaid : Prop := fnExactCheckLettersUptoRow.holds Try.pinned (OpenSpec.upto fnExactCheckLettersSpec)

/-- 'laws.FnExactIsName', WHERE WHAT IT READS IS OF BULK AT MOST 1048576: true; the input reads as it did. -/
def fnExactIsNameUptoRow : OpenClaim := { program := "yteeigkopaglcnaa", sum := "84084d79d0ee972d1f88d08e68a27c35d72d0aec84f93c9a0bdec9d2db466262", func := "loop.example/g01112/laws.FnExactIsName", spec := "fnExactIsName", apart := false, narrowed := true }
def FnExactIsNameUptoSaid : Prop := fnExactIsNameUptoRow.holds Try.pinned (OpenSpec.upto fnExactIsNameSpec)

/-- 'laws.FnExactNextSeed', WHERE WHAT IT READS IS OF BULK AT MOST 1048576: true; the input reads as it did. -/
def fnExactNextSeedUptoRow : OpenClaim := { program := "yteeigkopaglcnaa", sum := "84084d79d0ee972d1f88d08e68a27c35d72d0aec84f93c9a0bdec9d2db466262", func := "loop.example/g01112/laws.FnExactNextSeed", spec := "fnExactNextSeed", apart := false, narrowed := true }
def FnExactNextSeedUptoSaid : Prop := fnExactNextSeedUptoRow.holds Try.pinned (OpenSpec.upto fnExactNextSeedSpec)

/-- 'laws.FnExactReduceRatio', WHERE WHAT IT READS IS OF BULK AT MOST 1048576: true; the input reads as it did. -/
def fnExactReduceRatioUptoRow : OpenClaim := { program := "yteeigkopaglcnaa", sum := "84084d79d0ee972d1f88d08e68a27c35d72d0aec84f93c9a0bdec9d2db466262", func := "loop.example/g01112/laws.FnExactReduceRatio", spec := "fnExactReduceRatio", apart := false, narrowed := true }
def FnExactReduceRatioUptoSaid : Prop := fnExactReduceRatioUptoRow.holds Try.pinned (OpenSpec.upto fnExactReduceRatioSpec)

/-- 'laws.FnExactCompareRatios', WHERE WHAT IT READS IS OF BULK AT MOST 1048576: true; the input reads as it did. -/
def fnExactCompareRatiosUptoRow : OpenClaim := { program := "yteeigkopaglcnaa", sum := "84084d79d0ee972d1f88d08e68a27c35d72d0aec84f93c9a0bdec9d2db466262", func := "loop.example/g01112/laws.FnExactCompareRatios", spec := "fnExactCompareRatios", apart := false, narrowed := true }
def FnExactCompareRatiosUptoSaid : Prop := fnExactCompareRatiosUptoRow.holds Try.pinned (OpenSpec.upto fnExactCompareRatiosSpec)

/-- 'laws.FnExactValidUses', WHERE WHAT IT READS IS OF BULK AT MOST 1048576: true; the input reads as it did. -/
def fnExactValidUsesUptoRow : OpenClaim := { program := "yteeigkopaglcnaa", sum := "84084d79d0ee972d1f88d08e68a27c35d72d0aec84f93c9a0bdec9d2db466262", func := "loop.example/g01112/laws.FnExactValidUses", spec := "fnExactValidUses", unfollowed := true, recurses := true, apart := false, narrowed := true }
def FnExactValidUsesUptoSaid : Prop := fnExactValidUsesUptoRow.holds Try.pinned (OpenSpec.upto fnExactValidUsesSpec)

/-- 'laws.FnParity', WHERE WHAT IT READS IS OF BULK AT MOST 1048576: true; the input reads as it did. -/
def fnParityUptoRow : OpenClaim := { program := "yteeigkopaglcnaa", sum := "84084d79d0ee972d1f88d08e68a27c35d72d0aec84f93c9a0bdec9d2db466262", func := "loop.example/g01112/laws.FnParity", spec := "fnParity", apart := false, narrowed := true }
def FnParityUptoSaid : Prop := fnParityUptoRow.holds Try.pinned (OpenSpec.upto fnParitySpec)

/-- 'laws.FnExactParityOf', WHERE WHAT IT READS IS OF BULK AT MOST 1048576: true; the input reads as it did. -/
def fnExactParityOfUptoRow : OpenClaim := { program := "yteeigkopaglcnaa", sum := "84084d79d0ee972d1f88d08e68a27c35d72d0aec84f93c9a0bdec9d2db466262", func := "loop.example/g01112/laws.FnExactParityOf", spec := "fnExactParityOf", apart := false, narrowed := true }
def FnExactParityOfUptoSaid : Prop := fnExactParityOfUptoRow.holds Try.pinned (OpenSpec.upto fnExactParityOfSpec)

/-- 'laws.FnExactSeedList', WHERE WHAT IT READS IS OF BULK AT MOST 1048576: true; the input reads as it did. -/
def fnExactSeedListUptoRow : OpenClaim := { program := "yteeigkopaglcnaa", sum := "84084d79d0ee972d1f88d08e68a27c35d72d0aec84f93c9a0bdec9d2db466262", func := "loop.example/g01112/laws.FnExactSeedList", spec := "fnExactSeedList", apart := false, narrowed := true }
def FnExactSeedListUptoSaid : Prop := fnExactSeedListUptoRow.holds Try.pinned (OpenSpec.upto fnExactSeedListSpec)

/-- 'laws.FnSeeds', WHERE WHAT IT READS IS OF BULK AT MOST 1048576: true; the input reads as it did. -/
def fnSeedsUptoRow : OpenClaim := { program := "yteeigkopaglcnaa", sum := "84084d79d0ee972d1f88d08e68a27c35d72d0aec84f93c9a0bdec9d2db466262", func := "loop.example/g01112/laws.FnSeeds", spec := "fnSeeds", apart := false, narrowed := true }
def FnSeedsUptoSaid : Prop := fnSeedsUptoRow.holds Try.pinned (OpenSpec.upto fnSeedsSpec)

/-- 'laws.FnExactValidTrace', WHERE WHAT IT READS IS OF BULK AT MOST 1048576: true; the input reads as it did. -/
def fnExactValidTraceUptoRow : OpenClaim := { program := "yteeigkopaglcnaa", sum := "84084d79d0ee972d1f88d08e68a27c35d72d0aec84f93c9a0bdec9d2db466262", func := "loop.example/g01112/laws.FnExactValidTrace", spec := "fnExactValidTrace", unfollowed := true, recurses := true, apart := false, narrowed := true }
def FnExactValidTraceUptoSaid : Prop := fnExactValidTraceUptoRow.holds Try.pinned (OpenSpec.upto fnExactValidTraceSpec)

end Rows
end Go.Proofs.Yteeigkopaglcnaa
