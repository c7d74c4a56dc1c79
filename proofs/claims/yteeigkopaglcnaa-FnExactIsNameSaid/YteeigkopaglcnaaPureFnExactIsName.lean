/- The program's IsName returns what the reference's returns, for every text. Conditions: those of the row alone. -/
import Derived.Test.YteeigkopaglcnaaPFnExactIsNamex1
namespace Go.Proofs.Yteeigkopaglcnaa.Pure
open Go.RowKit Go.Proofs.Yteeigkopaglcnaa.PFnExactIsName Go.Proofs.YteeigkopaglcnaaW.PrintWords Go.Proofs.YteeigkopaglcnaaW.PrintLast Go.Proofs.YteeigkopaglcnaaW.PrintMore
set_option linter.unusedVariables false
set_option linter.unusedSimpArgs false

theorem wid {x : Int} (h1 : -9223372036854775808 ≤ x) (h2 : x < 9223372036854775808) : wrap64 x = x := by unfold wrap64; omega
theorem i64_bd {x : Int} (h : (Lit.int .i64 x).wf = true) : -9223372036854775808 ≤ x ∧ x ≤ 9223372036854775807 := by
  simp only [Lit.wf, IntKind.min, IntKind.max, IntKind.signed, IntKind.bits, Bool.and_eq_true, decide_eq_true_eq, if_true] at h
  omega
/-- A loop's step, its answer known at once. -/
theorem ev_ret {α : Type} {g : Nat → Option α} {r : α} (h : ∀ k, g (k + 1) = some r) : Ev g r := Ev.step (f := fun _ => some r) h (Ev.now r)
theorem ev_all {α : Type} {g : Nat → Option α} {r : α} (h : ∀ k, g k = some r) : Ev g r := ⟨0, fun k _ => h k⟩

/-- Once it is not fine, the reference's loop says no. -/
theorem fine_no (s : ByteArray) (hs : s.size ≤ 140737488351232) (d : Nat) : ∀ (i : Int), 0 ≤ i → (s.size : Int) - i = d → Ev (fun k => spec_IsName.l0 k s false i) false := by
  induction d with
  | zero => intro i h0 hd; exact ev_ret (fun k => by rw [spec_IsName.l0, if_neg (by omega)])
  | succ d ih =>
    intro i h0 hd
    refine Ev.step (fun k => ?_) (ih (i + 1) (by omega) (by omega))
    rw [spec_IsName.l0, if_pos (by omega), if_neg (by decide), wid (x := i + 1) (by omega) (by omega)]
theorem fine_yes (s : ByteArray) (hs : s.size ≤ 8) (hs1 : 1 ≤ s.size) (d : Nat) : ∀ (i : Int), 0 ≤ i → (s.size : Int) - i = d →
    ∃ r, Ev (fun k => spec_IsName.l0 k s true i) r ∧ Ev (fun k => impl_IsName.l0 k s (s.size : Int) i) r := by
  induction d with
  | zero =>
    intro i h0 hd
    refine ⟨true, ev_ret (fun k => by rw [spec_IsName.l0, if_neg (by omega)]), ev_ret (fun k => ?_)⟩
    rw [impl_IsName.l0, if_neg (by omega)]; unfold impl_inRange.f; rw [if_pos (by omega)]
    simp; omega
  | succ d ih =>
    intro i h0 hd
    by_cases a : bt s i ≥ 97
    · by_cases b : bt s i ≤ 122
      · obtain ⟨r, h1, h2⟩ := ih (i + 1) (by omega) (by omega)
        refine ⟨r, Ev.step (fun k => ?_) h1, Ev.step (fun k => ?_) h2⟩
        · rw [spec_IsName.l0, if_pos (by omega), if_pos rfl, if_pos h0, if_pos a, wid (x := i + 1) (by omega) (by omega), decide_eq_true b]
        · rw [impl_IsName.l0, if_pos (by omega), if_pos h0, if_pos (by omega), if_neg (by omega), if_neg (by omega), wid (x := i + 1) (by omega) (by omega)]
      · refine ⟨false, Ev.step (fun k => ?_) (fine_no s (by omega) d (i + 1) (by omega) (by omega)), ev_ret (fun k => ?_)⟩
        · rw [spec_IsName.l0, if_pos (by omega), if_pos rfl, if_pos h0, if_pos a, wid (x := i + 1) (by omega) (by omega), decide_eq_false b]
        · rw [impl_IsName.l0, if_pos (by omega), if_pos h0, if_pos (by omega), if_neg (by omega), if_pos (by omega)]
    · refine ⟨false, Ev.step (fun k => ?_) (fine_no s (by omega) d (i + 1) (by omega) (by omega)), ev_ret (fun k => ?_)⟩
      · rw [spec_IsName.l0, if_pos (by omega), if_pos rfl, if_pos h0, if_neg a, wid (x := i + 1) (by omega) (by omega)]
      · rw [impl_IsName.l0, if_pos (by omega), if_pos h0, if_pos (by omega), if_pos (by omega)]
/-- A text that is empty or too long is no name. -/
theorem impl_no (s : ByteArray) (hs : s.size ≤ 140737488351232) (hb : ¬ (1 ≤ (s.size : Int) ∧ (s.size : Int) ≤ 8)) (d : Nat) : ∀ (i : Int), 0 ≤ i → (s.size : Int) - i = d → Ev (fun k => impl_IsName.l0 k s (s.size : Int) i) false := by
  induction d with
  | zero =>
    intro i h0 hd
    refine ev_ret (fun k => ?_)
    rw [impl_IsName.l0, if_neg (by omega)]; unfold impl_inRange.f
    by_cases c : 1 ≤ (s.size : Int)
    · rw [if_pos c]; simp; omega
    · rw [if_neg c]; rfl
  | succ d ih =>
    intro i h0 hd
    by_cases a : bt s i < 97
    · exact ev_ret (fun k => by rw [impl_IsName.l0, if_pos (by omega), if_pos h0, if_pos (by omega), if_pos a])
    · by_cases b : bt s i > 122
      · exact ev_ret (fun k => by rw [impl_IsName.l0, if_pos (by omega), if_pos h0, if_pos (by omega), if_neg a, if_pos b])
      · refine Ev.step (fun k => ?_) (ih (i + 1) (by omega) (by omega))
        rw [impl_IsName.l0, if_pos (by omega), if_pos h0, if_pos (by omega), if_neg a, if_neg b, wid (x := i + 1) (by omega) (by omega)]
theorem name_both (s : ByteArray) (hs : s.size ≤ 140737488351232) : ∃ r, Ev (fun k => spec_IsName.f k s) r ∧ Ev (fun k => impl_IsName.f k s) r := by
  unfold spec_IsName.f impl_IsName.f
  by_cases h1 : (s.size : Int) ≥ 1
  · simp only [if_pos h1]
    by_cases h8 : (s.size : Int) ≤ 8
    · obtain ⟨r, a, b⟩ := fine_yes s (by omega) (by omega) s.size 0 (by omega) (by omega)
      exact ⟨r, Ev.step (fun k => by rw [spec_IsName.j0, decide_eq_true h8]) a, b⟩
    · exact ⟨false, Ev.step (fun k => by rw [spec_IsName.j0, decide_eq_false h8]) (fine_no s hs s.size 0 (by omega) (by omega)), impl_no s hs (by omega) s.size 0 (by omega) (by omega)⟩
  · simp only [if_neg h1]
    exact ⟨false, Ev.step (fun k => by rw [spec_IsName.j0]) (fine_no s hs s.size 0 (by omega) (by omega)), impl_no s hs (by omega) s.size 0 (by omega) (by omega)⟩
theorem FnExactIsName : laws_FnExactIsName.Pure := by
  intro s hs
  by_cases hb : (s.size : Int) > 1048576
  · exact ⟨0, by unfold laws_FnExactIsName.f; rw [if_pos hb]⟩
  · obtain ⟨r, e1, e2⟩ := name_both s hs
    refine Ev.rounds (r := true) ?_
    unfold laws_FnExactIsName.f
    simp only [if_neg hb]
    refine Ev.bind e1 (Ev.bind e2 (ev_all fun k => ?_))
    simp

end Go.Proofs.Yteeigkopaglcnaa.Pure
