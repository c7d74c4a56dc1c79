/- The program's ReduceRatio returns what the reference's returns, for all numbers. Conditions: those of the row alone. -/
import Derived.Test.YteeigkopaglcnaaPFnExactReduceRatiox1
namespace Go.Proofs.Yteeigkopaglcnaa.Pure
open Go.RowKit Go.Proofs.Yteeigkopaglcnaa.PFnExactReduceRatio Go.Proofs.YteeigkopaglcnaaW.PrintWords Go.Proofs.YteeigkopaglcnaaW.PrintLast Go.Proofs.YteeigkopaglcnaaW.PrintMore
set_option linter.unusedVariables false
set_option linter.unusedSimpArgs false

theorem wid {x : Int} (h1 : -9223372036854775808 ≤ x) (h2 : x < 9223372036854775808) : wrap64 x = x := by unfold wrap64; omega
theorem i64_bd {x : Int} (h : (Lit.int .i64 x).wf = true) : -9223372036854775808 ≤ x ∧ x ≤ 9223372036854775807 := by
  simp only [Lit.wf, IntKind.min, IntKind.max, IntKind.signed, IntKind.bits, Bool.and_eq_true, decide_eq_true_eq, if_true] at h
  omega
/-- A loop's step, its answer known at once. -/
theorem ev_ret {α : Type} {g : Nat → Option α} {r : α} (h : ∀ k, g (k + 1) = some r) : Ev g r := Ev.step (f := fun _ => some r) h (Ev.now r)
theorem ev_all {α : Type} {g : Nat → Option α} {r : α} (h : ∀ k, g k = some r) : Ev g r := ⟨0, fun k _ => h k⟩

/-- Both ask the same of a ratio. -/
theorem ratio_in (a b : Int) : spec_l01Ratio.f a b = some (decide (0 ≤ a ∧ a ≤ 1000000000 ∧ 1 ≤ b ∧ b ≤ 1000000000)) ∧ impl_isRatio.f a b = some (decide (0 ≤ a ∧ a ≤ 1000000000 ∧ 1 ≤ b ∧ b ≤ 1000000000)) := by
  unfold spec_l01Ratio.f impl_isRatio.f spec_l00In.f impl_inRange.f
  by_cases h1 : 0 ≤ a <;> by_cases h2 : a ≤ 1000000000 <;> by_cases h3 : 1 ≤ b <;> by_cases h4 : b ≤ 1000000000 <;> simp [h1, h2, h3, h4]

/-- The program's divisor: Euclid's way from the second number on. -/
theorem impl_gcd (n : Nat) : ∀ (a b : Int), 0 ≤ a → 0 ≤ b → b ≤ n → Ev (fun k => impl_divisor.l0 k a b) ((Nat.gcd a.toNat b.toNat : Nat) : Int) := by
  induction n with
  | zero =>
    intro a b ha hb hn
    have hb0 : b = 0 := by omega
    subst hb0
    refine ev_ret (fun k => ?_)
    rw [impl_divisor.l0, if_pos rfl]; simp; omega
  | succ n ih =>
    intro a b ha hb hn
    by_cases h : b = 0
    · subst h
      refine ev_ret (fun k => ?_)
      rw [impl_divisor.l0, if_pos rfl]; simp; omega
    · have hm : Int.tmod a b = a % b := Int.tmod_eq_emod_of_nonneg ha
      have h1 : 0 ≤ a % b := Int.emod_nonneg a h
      have h2 : a % b < b := Int.emod_lt_of_pos a (by omega)
      have e := ih b (a % b) hb h1 (by omega)
      have hg : Nat.gcd a.toNat b.toNat = Nat.gcd b.toNat (a % b).toNat := by
        obtain ⟨x, rfl⟩ := Int.eq_ofNat_of_zero_le ha
        obtain ⟨y, rfl⟩ := Int.eq_ofNat_of_zero_le hb
        rw [← Int.natCast_emod, Int.toNat_natCast, Int.toNat_natCast, Int.toNat_natCast, Nat.gcd_comm, Nat.gcd_rec, Nat.gcd_comm]
      rw [hg]
      refine Ev.step (fun k => ?_) e
      rw [impl_divisor.l0, if_neg h, hm]
theorem spec_gcd (n : Nat) : ∀ (a b : Int), 0 ≤ a → 0 ≤ b → a ≤ n → Ev (fun k => spec_l01Divisor.l0 k a b) ((Nat.gcd a.toNat b.toNat : Nat) : Int) := by
  induction n with
  | zero =>
    intro a b ha hb hn
    have ha0 : a = 0 := by omega
    subst ha0
    refine ev_ret (fun k => ?_)
    rw [spec_l01Divisor.l0, if_neg (by omega)]; simp; omega
  | succ n ih =>
    intro a b ha hb hn
    by_cases h : a = 0
    · subst h
      refine ev_ret (fun k => ?_)
      rw [spec_l01Divisor.l0, if_neg (by omega)]; simp; omega
    · have hm : Int.tmod b a = b % a := Int.tmod_eq_emod_of_nonneg hb
      have h1 : 0 ≤ b % a := Int.emod_nonneg b h
      have h2 : b % a < a := Int.emod_lt_of_pos b (by omega)
      have e := ih (b % a) a h1 ha (by omega)
      have hg : Nat.gcd a.toNat b.toNat = Nat.gcd (b % a).toNat a.toNat := by
        obtain ⟨x, rfl⟩ := Int.eq_ofNat_of_zero_le ha
        obtain ⟨y, rfl⟩ := Int.eq_ofNat_of_zero_le hb
        rw [← Int.natCast_emod, Int.toNat_natCast, Int.toNat_natCast, Int.toNat_natCast, Nat.gcd_rec]
      rw [hg]
      refine Ev.step (fun k => ?_) e
      rw [spec_l01Divisor.l0, if_pos (by omega), if_neg h, hm]
theorem gcd_pos {a b : Int} (hb : 1 ≤ b) : (0 : Int) < ((Nat.gcd a.toNat b.toNat : Nat) : Int) := by
  have := Nat.gcd_pos_of_pos_right a.toNat (n := b.toNat) (by omega)
  omega

/-- What both make of two numbers. -/
def redOf (a b : Int) : Int × Int × Bool := if 0 ≤ a ∧ a ≤ 1000000000 ∧ 1 ≤ b ∧ b ≤ 1000000000 then (a / ((Nat.gcd a.toNat b.toNat : Nat) : Int), b / ((Nat.gcd a.toNat b.toNat : Nat) : Int), true) else (0, 0, false)
theorem quo_in {a g : Int} (h0 : 0 ≤ a) (h1 : a ≤ 1000000000) (hg : 0 < g) : wrap64 (Int.tdiv a g) = a / g := by
  rw [Int.tdiv_eq_ediv_of_nonneg h0]
  have h2 := Int.ediv_le_self g h0
  have h3 := Int.ediv_nonneg h0 (show 0 ≤ g by omega)
  exact wid (by omega) (by omega)
theorem impl_reduce (a b : Int) : Ev (fun k => impl_ReduceRatio.f k a b) (redOf a b) := by
  unfold impl_ReduceRatio.f redOf
  simp only [(ratio_in a b).2, Option.bind_some, decide_eq_true_eq]
  by_cases h : 0 ≤ a ∧ a ≤ 1000000000 ∧ 1 ≤ b ∧ b ≤ 1000000000
  · obtain ⟨h1, h2, h3, h4⟩ := id h
    simp only [if_pos h]
    have hp := gcd_pos (a := a) h3
    refine Ev.bind (impl_gcd b.toNat a b h1 (by omega) (by omega)) (ev_all fun k => ?_)
    rw [if_neg (by omega), quo_in h1 h2 hp, quo_in (by omega) h4 hp]
  · simp only [if_neg h]
    exact Ev.now _

theorem spec_reduce (a b : Int) : Ev (fun k => spec_ReduceRatio.f k a b) (redOf a b) := by
  unfold spec_ReduceRatio.f redOf
  simp only [(ratio_in a b).1, Option.bind_some, decide_eq_true_eq]
  by_cases h : 0 ≤ a ∧ a ≤ 1000000000 ∧ 1 ≤ b ∧ b ≤ 1000000000
  · obtain ⟨h1, h2, h3, h4⟩ := id h
    simp only [if_pos h]
    have hp := gcd_pos (a := a) h3
    refine Ev.bind (spec_gcd a.toNat a b h1 (by omega) (by omega)) (ev_all fun k => ?_)
    rw [if_neg (by omega), quo_in h1 h2 hp, quo_in (by omega) h4 hp]
  · simp only [if_neg h]
    exact Ev.now _
theorem FnExactReduceRatio : laws_FnExactReduceRatio.Pure := by
  intro a b _ _
  refine Ev.rounds (r := true) ?_
  unfold laws_FnExactReduceRatio.f
  refine Ev.bind (spec_reduce a b) (Ev.bind (impl_reduce a b) (ev_all fun k => ?_))
  simp

end Go.Proofs.Yteeigkopaglcnaa.Pure
