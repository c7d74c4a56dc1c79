/- The program's CheckLetters returns what the reference's returns, for every text. Conditions: those of the row alone. -/
import Derived.Test.YteeigkopaglcnaaPFnExactCheckLettersx1
namespace Go.Proofs.Yteeigkopaglcnaa.Pure
open Go.RowKit Go.Proofs.Yteeigkopaglcnaa.PFnExactCheckLetters Go.Proofs.YteeigkopaglcnaaW.PrintWords Go.Proofs.YteeigkopaglcnaaW.PrintLast Go.Proofs.YteeigkopaglcnaaW.PrintMore
set_option linter.unusedVariables false
set_option linter.unusedSimpArgs false

theorem wid {x : Int} (h1 : -9223372036854775808 ≤ x) (h2 : x < 9223372036854775808) : wrap64 x = x := by unfold wrap64; omega
theorem i64_bd {x : Int} (h : (Lit.int .i64 x).wf = true) : -9223372036854775808 ≤ x ∧ x ≤ 9223372036854775807 := by
  simp only [Lit.wf, IntKind.min, IntKind.max, IntKind.signed, IntKind.bits, Bool.and_eq_true, decide_eq_true_eq, if_true] at h
  omega
/-- A loop's step, its answer known at once. -/
theorem ev_ret {α : Type} {g : Nat → Option α} {r : α} (h : ∀ k, g (k + 1) = some r) : Ev g r := Ev.step (f := fun _ => some r) h (Ev.now r)
theorem ev_all {α : Type} {g : Nat → Option α} {r : α} (h : ∀ k, g k = some r) : Ev g r := ⟨0, fun k _ => h k⟩

theorem letters_both (s : ByteArray) (hs : s.size ≤ 140737488351232) (d : Nat) : ∀ (i x : Int), 0 ≤ i → (s.size : Int) - i = d →
    ∃ r, Ev (fun k => spec_l01Letters.l0 k s x i) r ∧ Ev (fun k => impl_CheckLetters.l0 k s x (s.size : Int) i) r := by
  induction d with
  | zero =>
    intro i x h0 hd
    exact ⟨_, ev_ret (fun k => by rw [spec_l01Letters.l0, if_neg (by omega)]), ev_ret (fun k => by rw [impl_CheckLetters.l0, if_neg (by omega)])⟩
  | succ d ih =>
    intro i x h0 hd
    obtain ⟨r, h1, h2⟩ := ih (i + 1) (Int.tmod (wrap64 ((wrap64 (31 * x)) + (wrap64 (bt s i)))) 676) (by omega) (by omega)
    refine ⟨r, Ev.step (fun k => ?_) h1, Ev.step (fun k => ?_) h2⟩
    · rw [spec_l01Letters.l0, if_pos (by omega), if_pos h0, wid (x := i + 1) (by omega) (by omega)]
    · rw [impl_CheckLetters.l0, if_pos (by omega), if_pos h0, if_pos (by omega), wid (x := i + 1) (by omega) (by omega)]
theorem FnExactCheckLetters : laws_FnExactCheckLetters.Pure := by
  intro s hs
  by_cases hb : (s.size : Int) > 1048576
  · exact ⟨0, by unfold laws_FnExactCheckLetters.f; rw [if_pos hb]⟩
  · obtain ⟨r, h1, h2⟩ := letters_both s hs s.size 0 1 (by omega) (by omega)
    have e1 : Ev (fun k => spec_CheckLetters.f k s) r := by unfold spec_CheckLetters.f spec_l01Letters.f; exact Ev.bind h1 (Ev.now r)
    have e2 : Ev (fun k => impl_CheckLetters.f k s) r := h2
    refine Ev.rounds (r := true) ?_
    unfold laws_FnExactCheckLetters.f
    simp only [if_neg hb]
    refine Ev.bind e1 (Ev.bind e2 (ev_all fun k => ?_))
    rw [if_pos rfl]

end Go.Proofs.Yteeigkopaglcnaa.Pure
