-- WRITTEN BY wip/xprint.py out of the translation, with contracts of mine put in: Lean checks it.
import Derived.Test.YtbfcnacllonnbaaDoorPFnMergedTracesx
import Derived.Test.YtbfcnacllonnbaaDoorOpen
namespace Go.Proofs.YtbfcnacllonnbaaDoor.PFnMergedTraces
open Go.RowKit Go.ChangeShapes Go.WideShapes Go.Proofs.YtbfcnacllonnbaaDoorW.PrintWords Go.Proofs.YtbfcnacllonnbaaDoorW.PrintLast Go.Proofs.YtbfcnacllonnbaaDoor
set_option linter.unusedVariables false

/-- THE ONE PURE STATEMENT of laws_FnMergedTraces. -/
def laws_FnMergedTraces.Pure : Prop := ∀ (l0 : List Int) (l1 : List Int), (l0.length ≤ 9223372036854775807 ∧ ∀ x ∈ l0, (Lit.int .u8 x).wf = true) → (l1.length ≤ 9223372036854775807 ∧ ∀ x ∈ l1, (Lit.int .u8 x).wf = true) → ∃ k, laws_FnMergedTraces.f k l0 l1 = some true
set_option maxRecDepth 100000 in
theorem laws_FnMergedTraces.walk (P : laws_FnMergedTraces.Pure) (A0 : Option Addr) (c0 : Nat) (l0 : List Int) (A1 : Option Addr) (c1 : Nat) (l1 : List Int) (w : World) (hr0 : Kd.C (Kd.int .u8) w A0 l0.length l0) (hc0 : l0.length ≤ c0) (hr1 : Kd.C (Kd.int .u8) w A1 l1.length l1) (hc1 : l1.length ≤ c1) (wl0 : (l0.length ≤ 9223372036854775807 ∧ ∀ x ∈ l0, (Lit.int .u8 x).wf = true)) (wl1 : (l1.length ≤ 9223372036854775807 ∧ ∀ x ∈ l1, (Lit.int .u8 x).wf = true)) (hamb : Door.AmbS w) :
    Calls Tryd.prog 4 #[.slice A0 l0.length c0, .slice A1 l1.length c1] w fun e w' => e = .returned (.bool true) ∧ Below w.heap.size w w' := by
  obtain ⟨k, h⟩ := P l0 l1 wl0 wl1
  refine (laws_FnMergedTraces.calls k _ _ l0 _ _ l1 true w hr0 hc0 hr1 hc1 h hamb).mono ?_
  rintro e w' ⟨rfl, hd⟩
  exact ⟨rfl, hd⟩

end Go.Proofs.YtbfcnacllonnbaaDoor.PFnMergedTraces
