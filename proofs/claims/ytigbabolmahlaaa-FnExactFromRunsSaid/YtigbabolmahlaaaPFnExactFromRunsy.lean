-- WRITTEN BY wip/xprint.py out of the translation, with contracts of mine put in: Lean checks it.
import Derived.Test.YtigbabolmahlaaaPFnExactFromRunsx
import Derived.Test.YtigbabolmahlaaaOpen
namespace Go.Proofs.Ytigbabolmahlaaa.PFnExactFromRuns
open Go.RowKit Go.ChangeShapes Go.WideShapes Go.Proofs.YtigbabolmahlaaaW.PrintWords Go.Proofs.YtigbabolmahlaaaW.PrintLast Go.Proofs.Ytigbabolmahlaaa
set_option linter.unusedVariables false

/-- THE ONE PURE STATEMENT of laws_FnExactFromRuns. -/
def laws_FnExactFromRuns.Pure : Prop := ∀ (l0 : List (List Int)), (l0.length ≤ 9223372036854775807 ∧ ∀ x ∈ l0, (x.length ≤ 9223372036854775807 ∧ ∀ y ∈ x, (Lit.int .i64 y).wf = true)) → ∃ k, laws_FnExactFromRuns.f k l0 = some true
theorem laws_FnExactFromRuns.walk (P : laws_FnExactFromRuns.Pure) (A0 : Option Addr) (c0 : Nat) (l0 : List (List Int)) (w : World) (hr0 : Kd.C (Kd.slice 2 (Kd.int .i64)) w A0 l0.length l0) (hc0 : l0.length ≤ c0) (wl0 : (l0.length ≤ 9223372036854775807 ∧ ∀ x ∈ l0, (x.length ≤ 9223372036854775807 ∧ ∀ y ∈ x, (Lit.int .i64 y).wf = true))) :
    Calls Try.prog 4 #[.slice A0 l0.length c0] w fun e w' => e = .returned (.bool true) ∧ Below w.heap.size w w' := by
  obtain ⟨k, h⟩ := P l0 wl0
  refine (laws_FnExactFromRuns.calls k _ _ l0 true w hr0 hc0 h).mono ?_
  rintro e w' ⟨rfl, hd⟩
  exact ⟨rfl, hd⟩

end Go.Proofs.Ytigbabolmahlaaa.PFnExactFromRuns
