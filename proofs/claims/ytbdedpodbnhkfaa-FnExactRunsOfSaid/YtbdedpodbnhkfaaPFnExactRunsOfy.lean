-- WRITTEN BY wip/xprint.py out of the translation, with contracts of mine put in: Lean checks it.
import Derived.Test.YtbdedpodbnhkfaaPFnExactRunsOfx
import Derived.Test.YtbdedpodbnhkfaaOpen
namespace Go.Proofs.Ytbdedpodbnhkfaa.PFnExactRunsOf
open Go.RowKit Go.ChangeShapes Go.WideShapes Go.Proofs.YtbdedpodbnhkfaaW.PrintWords Go.Proofs.YtbdedpodbnhkfaaW.PrintLast Go.Proofs.Ytbdedpodbnhkfaa
set_option linter.unusedVariables false

/-- THE ONE PURE STATEMENT of laws_FnExactRunsOf. -/
def laws_FnExactRunsOf.Pure : Prop := ∀ (l0 : List Int), (l0.length ≤ 9223372036854775807 ∧ ∀ x ∈ l0, (Lit.int .i64 x).wf = true) → ∃ k, laws_FnExactRunsOf.f k l0 = some true
theorem laws_FnExactRunsOf.walk (P : laws_FnExactRunsOf.Pure) (A0 : Option Addr) (c0 : Nat) (l0 : List Int) (w : World) (hr0 : Kd.C (Kd.int .i64) w A0 l0.length l0) (hc0 : l0.length ≤ c0) (wl0 : (l0.length ≤ 9223372036854775807 ∧ ∀ x ∈ l0, (Lit.int .i64 x).wf = true)) :
    Calls Try.prog 8 #[.slice A0 l0.length c0] w fun e w' => e = .returned (.bool true) ∧ Below w.heap.size w w' := by
  obtain ⟨k, h⟩ := P l0 wl0
  refine (laws_FnExactRunsOf.calls k _ _ l0 true w hr0 hc0 h).mono ?_
  rintro e w' ⟨rfl, hd⟩
  exact ⟨rfl, hd⟩

end Go.Proofs.Ytbdedpodbnhkfaa.PFnExactRunsOf
