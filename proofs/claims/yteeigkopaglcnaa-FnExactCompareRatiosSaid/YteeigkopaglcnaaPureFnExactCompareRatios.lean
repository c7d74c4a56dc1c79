/- The program's CompareRatios returns what the reference's returns, for all numbers. Conditions: those of the row alone. -/
import Derived.Test.YteeigkopaglcnaaPFnExactCompareRatiosx1
namespace Go.Proofs.Yteeigkopaglcnaa.Pure
open Go.RowKit Go.Proofs.Yteeigkopaglcnaa.PFnExactCompareRatios Go.Proofs.YteeigkopaglcnaaW.PrintWords Go.Proofs.YteeigkopaglcnaaW.PrintLast Go.Proofs.YteeigkopaglcnaaW.PrintMore
set_option linter.unusedVariables false
set_option linter.unusedSimpArgs false

theorem wid {x : Int} (h1 : -9223372036854775808 ≤ x) (h2 : x < 9223372036854775808) : wrap64 x = x := by unfold wrap64; omega
theorem i64_bd {x : Int} (h : (Lit.int .i64 x).wf = true) : -9223372036854775808 ≤ x ∧ x ≤ 9223372036854775807 := by
  simp only [Lit.wf, IntKind.min, IntKind.max, IntKind.signed, IntKind.bits, Bool.and_eq_true, decide_eq_true_eq, if_true] at h
  omega
/-- A loop's step, its answer known at once. -/
theorem ev_ret {α : Type} {g : Nat → Option α} {r : α} (h : ∀ k, g (k + 1) = some r) : Ev g r := Ev.step (f := fun _ => some r) h (Ev.now r)
theorem ev_all {α : Type} {g : Nat → Option α} {r : α} (h : ∀ k, g k = some r) : Ev g r := ⟨0, fun k _ => h k⟩

/-- Both ask the same of a ratio. -/
theorem ratio_in (a b : Int) : spec_l01Ratio.f a b = some (decide (0 ≤ a ∧ a ≤ 1000000000 ∧ 1 ≤ b ∧ b ≤ 1000000000)) ∧ impl_isRatio.f a b = some (decide (0 ≤ a ∧ a ≤ 1000000000 ∧ 1 ≤ b ∧ b ≤ 1000000000)) := by
  unfold spec_l01Ratio.f impl_isRatio.f spec_l00In.f impl_inRange.f
  by_cases h1 : 0 ≤ a <;> by_cases h2 : a ≤ 1000000000 <;> by_cases h3 : 1 ≤ b <;> by_cases h4 : b ≤ 1000000000 <;> simp [h1, h2, h3, h4]

theorem FnExactCompareRatios : laws_FnExactCompareRatios.Pure := by
  intro a b c d _ _ _ _
  refine ⟨1, ?_⟩
  unfold laws_FnExactCompareRatios.f spec_CompareRatios.f impl_CompareRatios.f cmp_Compare_int64.f cmp_isNaN_int64.f
  simp only [(ratio_in a b).1, (ratio_in a b).2, (ratio_in c d).1, (ratio_in c d).2, Option.bind_some, decide_eq_true_eq, spec_CompareRatios.j0]
  generalize wrap64 (a * d) = x
  generalize wrap64 (c * b) = y
  by_cases h : 0 ≤ a ∧ a ≤ 1000000000 ∧ 1 ≤ b ∧ b ≤ 1000000000
  · by_cases h2 : 0 ≤ c ∧ c ≤ 1000000000 ∧ 1 ≤ d ∧ d ≤ 1000000000
    · simp only [if_pos h, if_pos h2, decide_eq_true h2]
      by_cases l : x < y
      · simp [l]
      · by_cases g : x > y <;> simp [l, g]
    · simp only [if_pos h, if_neg h2, decide_eq_false h2]
      simp
  · simp only [if_neg h]
    simp

end Go.Proofs.Yteeigkopaglcnaa.Pure
