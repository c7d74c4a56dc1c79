/- The program's NextSeed returns what the reference's returns, for every number. Conditions: those of the row alone. -/
import Derived.Test.YteeigkopaglcnaaPFnExactNextSeedx1
namespace Go.Proofs.Yteeigkopaglcnaa.Pure
open Go.RowKit Go.Proofs.Yteeigkopaglcnaa.PFnExactNextSeed Go.Proofs.YteeigkopaglcnaaW.PrintWords Go.Proofs.YteeigkopaglcnaaW.PrintLast Go.Proofs.YteeigkopaglcnaaW.PrintMore
set_option linter.unusedVariables false
set_option linter.unusedSimpArgs false

theorem wid {x : Int} (h1 : -9223372036854775808 ≤ x) (h2 : x < 9223372036854775808) : wrap64 x = x := by unfold wrap64; omega
theorem i64_bd {x : Int} (h : (Lit.int .i64 x).wf = true) : -9223372036854775808 ≤ x ∧ x ≤ 9223372036854775807 := by
  simp only [Lit.wf, IntKind.min, IntKind.max, IntKind.signed, IntKind.bits, Bool.and_eq_true, decide_eq_true_eq, if_true] at h
  omega
/-- A loop's step, its answer known at once. -/
theorem ev_ret {α : Type} {g : Nat → Option α} {r : α} (h : ∀ k, g (k + 1) = some r) : Ev g r := Ev.step (f := fun _ => some r) h (Ev.now r)
theorem ev_all {α : Type} {g : Nat → Option α} {r : α} (h : ∀ k, g k = some r) : Ev g r := ⟨0, fun k _ => h k⟩

theorem FnExactNextSeed : laws_FnExactNextSeed.Pure := by
  intro a _
  unfold laws_FnExactNextSeed.f spec_NextSeed.f impl_NextSeed.f spec_l01Seed.f impl_isSeed.f spec_l00In.f impl_inRange.f spec_l01Next.f impl_nextSeed.f
  by_cases h1 : 1 ≤ a
  · by_cases h2 : a ≤ 2147483646 <;> simp [h1, h2]
  · simp [h1]

end Go.Proofs.Yteeigkopaglcnaa.Pure
