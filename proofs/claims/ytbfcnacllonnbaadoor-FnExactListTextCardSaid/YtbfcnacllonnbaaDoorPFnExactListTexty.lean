-- WRITTEN BY wip/xprint.py out of the translation, with contracts of mine put in: Lean checks it.
import Derived.Test.YtbfcnacllonnbaaDoorPFnExactListTextx
import Derived.Test.YtbfcnacllonnbaaDoorOpen
namespace Go.Proofs.YtbfcnacllonnbaaDoor.PFnExactListText
open Go.RowKit Go.ChangeShapes Go.WideShapes Go.Proofs.YtbfcnacllonnbaaDoorW.PrintWords Go.Proofs.YtbfcnacllonnbaaDoorW.PrintLast Go.Proofs.YtbfcnacllonnbaaDoor
set_option linter.unusedVariables false

/-- THE ONE PURE STATEMENT of laws_FnExactListText. -/
def laws_FnExactListText.Pure : Prop := ∀ (l0 : List Int), (l0.length ≤ 9223372036854775807 ∧ ∀ x ∈ l0, (Lit.int .i64 x).wf = true) → ∃ k, laws_FnExactListText.f k l0 = some true
theorem laws_FnExactListText.walk (P : laws_FnExactListText.Pure) (A0 : Option Addr) (c0 : Nat) (l0 : List Int) (w : World) (hr0 : Kd.C (Kd.int .i64) w A0 l0.length l0) (hc0 : l0.length ≤ c0) (wl0 : (l0.length ≤ 9223372036854775807 ∧ ∀ x ∈ l0, (Lit.int .i64 x).wf = true)) (hamb : Door.Tab w) :
    Calls Tryd.prog 9 #[.slice A0 l0.length c0] w fun e w' => e = .returned (.bool true) ∧ Below w.heap.size w w' := by
  obtain ⟨k, h⟩ := P l0 wl0
  refine (laws_FnExactListText.calls k _ _ l0 true w hr0 hc0 h hamb).mono ?_
  rintro e w' ⟨rfl, hd⟩
  exact ⟨rfl, hd⟩

end Go.Proofs.YtbfcnacllonnbaaDoor.PFnExactListText
