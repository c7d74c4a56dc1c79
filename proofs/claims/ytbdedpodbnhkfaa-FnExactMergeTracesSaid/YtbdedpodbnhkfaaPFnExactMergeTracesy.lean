-- WRITTEN BY wip/xprint.py out of the translation, with contracts of mine put in: Lean checks it.
import Derived.Test.YtbdedpodbnhkfaaPFnExactMergeTracesx
import Derived.Test.YtbdedpodbnhkfaaOpen
namespace Go.Proofs.Ytbdedpodbnhkfaa.PFnExactMergeTraces
open Go.RowKit Go.ChangeShapes Go.WideShapes Go.Proofs.YtbdedpodbnhkfaaW.PrintWords Go.Proofs.YtbdedpodbnhkfaaW.PrintLast Go.Proofs.Ytbdedpodbnhkfaa
set_option linter.unusedVariables false

/-- A value of type 81 fits. -/
def ok81 (x : S81) : Prop := (Lit.int .i64 x.f0).wf = true ∧ (Lit.int .i64 x.f1).wf = true
theorem opens_T81 : Opn.Opens Try.prog k81 81 ok81 := by
  intro H enc w base spare held fuel cs x h
  obtain ⟨xs, n, _, _, hl, hlen, hf⟩ := DataW.trod_struct Try.underlying81 h
  have hC : Try.prog.cellsOf 81 = 2 := by kernel_rfl
  rw [hC] at hl
  match cs, hl with
  | [c0, c1], _ =>
    have e0 : Try.prog.cellsOf 2 = 1 := by kernel_rfl
    obtain ⟨z0, hz0⟩ : ∃ z, xs[0]? = some z := ⟨_, List.getElem?_eq_getElem (by rw [hlen]; decide)⟩
    have g0 : DataW.trod enc Try.prog w base spare held n 2 [c0] = some z0 := by have q := hf 0 _ rfl; rw [hz0] at q; simpa [e0] using q
    obtain ⟨y0, k0, o0⟩ := (Opn.opens_int Try.underlying2) H enc w base spare held n [c0] z0 g0
    have e1 : Try.prog.cellsOf 2 = 1 := by kernel_rfl
    obtain ⟨z1, hz1⟩ : ∃ z, xs[1]? = some z := ⟨_, List.getElem?_eq_getElem (by rw [hlen]; decide)⟩
    have g1 : DataW.trod enc Try.prog w base spare held n 2 [c1] = some z1 := by have q := hf 1 _ rfl; rw [hz1] at q; simpa [e1] using q
    obtain ⟨y1, k1, o1⟩ := (Opn.opens_int Try.underlying2) H enc w base spare held n [c1] z1 g1
    exact ⟨⟨y0, y1⟩, ⟨[c0], [c1], rfl, k0, k1⟩, o0, o1⟩

/-- THE ONE PURE STATEMENT of laws_FnExactMergeTraces. -/
def laws_FnExactMergeTraces.Pure : Prop := ∀ (l0 : List (S81)) (l1 : List (S81)) (l2 : List Int), (l0.length ≤ 9223372036854775807 ∧ ∀ x ∈ l0, (ok81 x)) → (l1.length ≤ 9223372036854775807 ∧ ∀ x ∈ l1, (ok81 x)) → (l2.length ≤ 9223372036854775807 ∧ ∀ x ∈ l2, (Lit.int .i64 x).wf = true) → ∃ k, laws_FnExactMergeTraces.f k l0 l1 l2 = some true
theorem laws_FnExactMergeTraces.walk (P : laws_FnExactMergeTraces.Pure) (A0 : Option Addr) (c0 : Nat) (l0 : List (S81)) (A1 : Option Addr) (c1 : Nat) (l1 : List (S81)) (A2 : Option Addr) (c2 : Nat) (l2 : List Int) (w : World) (hr0 : Kd.C k81 w A0 l0.length l0) (hc0 : l0.length ≤ c0) (hr1 : Kd.C k81 w A1 l1.length l1) (hc1 : l1.length ≤ c1) (hr2 : Kd.C (Kd.int .i64) w A2 l2.length l2) (hc2 : l2.length ≤ c2) (wl0 : (l0.length ≤ 9223372036854775807 ∧ ∀ x ∈ l0, (ok81 x))) (wl1 : (l1.length ≤ 9223372036854775807 ∧ ∀ x ∈ l1, (ok81 x))) (wl2 : (l2.length ≤ 9223372036854775807 ∧ ∀ x ∈ l2, (Lit.int .i64 x).wf = true)) :
    Calls Try.prog 13 #[.slice A0 l0.length c0, .slice A1 l1.length c1, .slice A2 l2.length c2] w fun e w' => e = .returned (.bool true) ∧ Below w.heap.size w w' := by
  obtain ⟨k, h⟩ := P l0 l1 l2 wl0 wl1 wl2
  refine (laws_FnExactMergeTraces.calls k _ _ l0 _ _ l1 _ _ l2 true w hr0 hc0 hr1 hc1 hr2 hc2 h).mono ?_
  rintro e w' ⟨rfl, hd⟩
  exact ⟨rfl, hd⟩

end Go.Proofs.Ytbdedpodbnhkfaa.PFnExactMergeTraces
