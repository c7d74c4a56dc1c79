-- WRITTEN BY wip/xprint.py out of the translation, with contracts of mine put in: Lean checks it.
import Derived.Test.YtbdedpodbnhkfaaPFnExactSeedPolicyx
import Derived.Test.YtbdedpodbnhkfaaOpen
namespace Go.Proofs.Ytbdedpodbnhkfaa.PFnExactSeedPolicy
open Go.RowKit Go.ChangeShapes Go.WideShapes Go.Proofs.YtbdedpodbnhkfaaW.PrintWords Go.Proofs.YtbdedpodbnhkfaaW.PrintLast Go.Proofs.Ytbdedpodbnhkfaa
set_option linter.unusedVariables false

/-- THE ONE PURE STATEMENT of laws_FnExactSeedPolicy. -/
def laws_FnExactSeedPolicy.Pure : Prop := ∀ (a0 : Int) (a1 : Int), (Lit.int .i64 a0).wf = true → (Lit.int .i64 a1).wf = true → ∃ k, laws_FnExactSeedPolicy.f k a0 a1 = some true
theorem laws_FnExactSeedPolicy.walk (P : laws_FnExactSeedPolicy.Pure) (a0 : Int) (a1 : Int) (w : World)  (wa0 : (Lit.int .i64 a0).wf = true) (wa1 : (Lit.int .i64 a1).wf = true) :
    Calls Try.prog 12 #[.int .i64 a0, .int .i64 a1] w fun e w' => e = .returned (.bool true) ∧ Below w.heap.size w w' := by
  obtain ⟨k, h⟩ := P a0 a1 wa0 wa1
  refine (laws_FnExactSeedPolicy.calls k a0 a1 true w  h).mono ?_
  rintro e w' ⟨rfl, hd⟩
  exact ⟨rfl, hd⟩

end Go.Proofs.Ytbdedpodbnhkfaa.PFnExactSeedPolicy
