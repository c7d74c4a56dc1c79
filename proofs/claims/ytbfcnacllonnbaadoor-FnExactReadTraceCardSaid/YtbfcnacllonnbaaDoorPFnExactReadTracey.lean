-- WRITTEN BY wip/xprint.py out of the translation, with contracts of mine put in: Lean checks it.
import Derived.Test.YtbfcnacllonnbaaDoorPFnExactReadTracex
import Derived.Test.YtbfcnacllonnbaaDoorOpen
namespace Go.Proofs.YtbfcnacllonnbaaDoor.PFnExactReadTrace
open Go.RowKit Go.ChangeShapes Go.WideShapes Go.Proofs.YtbfcnacllonnbaaDoorW.PrintWords Go.Proofs.YtbfcnacllonnbaaDoorW.PrintLast Go.Proofs.YtbfcnacllonnbaaDoor
set_option linter.unusedVariables false

/-- THE ONE PURE STATEMENT of laws_FnExactReadTrace. -/
def laws_FnExactReadTrace.Pure : Prop := ∀ (a0 : ByteArray), a0.size ≤ 140737488351232 → ∃ k, laws_FnExactReadTrace.f k a0 = some true
set_option maxRecDepth 100000 in
theorem laws_FnExactReadTrace.walk (P : laws_FnExactReadTrace.Pure) (a0 : ByteArray) (w : World)  (wa0 : a0.size ≤ 140737488351232) (hamb : Door.AmbS w) :
    Calls Tryd.prog 5 #[.string a0] w fun e w' => e = .returned (.bool true) ∧ Below w.heap.size w w' := by
  obtain ⟨k, h⟩ := P a0 wa0
  refine (laws_FnExactReadTrace.calls k a0 true w  h hamb).mono ?_
  rintro e w' ⟨rfl, hd⟩
  exact ⟨rfl, hd⟩

end Go.Proofs.YtbfcnacllonnbaaDoor.PFnExactReadTrace
