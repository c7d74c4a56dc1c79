-- WRITTEN BY wip/xprint.py out of the translation, with contracts of mine put in: Lean checks it.
import Derived.Test.YtbfcnacllonnbaaDoorPFnExactDecimalx
import Derived.Test.YtbfcnacllonnbaaDoorOpen
namespace Go.Proofs.YtbfcnacllonnbaaDoor.PFnExactDecimal
open Go.RowKit Go.ChangeShapes Go.WideShapes Go.Proofs.YtbfcnacllonnbaaDoorW.PrintWords Go.Proofs.YtbfcnacllonnbaaDoorW.PrintLast Go.Proofs.YtbfcnacllonnbaaDoor
set_option linter.unusedVariables false

/-- THE ONE PURE STATEMENT of laws_FnExactDecimal. -/
def laws_FnExactDecimal.Pure : Prop := ∀ (a0 : Int), (Lit.int .i64 a0).wf = true → ∃ k, laws_FnExactDecimal.f k a0 = some true
theorem laws_FnExactDecimal.walk (P : laws_FnExactDecimal.Pure) (a0 : Int) (w : World)  (wa0 : (Lit.int .i64 a0).wf = true) (hamb : Door.Tab w) :
    Calls Tryd.prog 6 #[.int .i64 a0] w fun e w' => e = .returned (.bool true) ∧ Below w.heap.size w w' := by
  obtain ⟨k, h⟩ := P a0 wa0
  refine (laws_FnExactDecimal.calls k a0 true w  h hamb).mono ?_
  rintro e w' ⟨rfl, hd⟩
  exact ⟨rfl, hd⟩

end Go.Proofs.YtbfcnacllonnbaaDoor.PFnExactDecimal
