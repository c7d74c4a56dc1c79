-- WRITTEN BY wip/xprint.py out of the translation, with contracts of mine put in: Lean checks it.
import Derived.Test.YtigbabolmahlaaaPFnExactTreePolicyx
import Derived.Test.YtigbabolmahlaaaOpen
namespace Go.Proofs.Ytigbabolmahlaaa.PFnExactTreePolicy
open Go.RowKit Go.ChangeShapes Go.WideShapes Go.Proofs.YtigbabolmahlaaaW.PrintWords Go.Proofs.YtigbabolmahlaaaW.PrintLast Go.Proofs.Ytigbabolmahlaaa
set_option linter.unusedVariables false

/-- THE ONE PURE STATEMENT of laws_FnExactTreePolicy. -/
def laws_FnExactTreePolicy.Pure : Prop := ∀ (a0 : Int), (Lit.int .i64 a0).wf = true → ∃ k, laws_FnExactTreePolicy.f k a0 = some true
theorem laws_FnExactTreePolicy.walk (P : laws_FnExactTreePolicy.Pure) (a0 : Int) (w : World)  (wa0 : (Lit.int .i64 a0).wf = true) :
    Calls Try.prog 3 #[.int .i64 a0] w fun e w' => e = .returned (.bool true) ∧ Below w.heap.size w w' := by
  obtain ⟨k, h⟩ := P a0 wa0
  refine (laws_FnExactTreePolicy.calls k a0 true w  h).mono ?_
  rintro e w' ⟨rfl, hd⟩
  exact ⟨rfl, hd⟩

end Go.Proofs.Ytigbabolmahlaaa.PFnExactTreePolicy
