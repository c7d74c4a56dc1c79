-- WRITTEN BY wip/xprint.py out of the translation, with contracts of mine put in: Lean checks it.
import Derived.Test.YtbdedpodbnhkfaaPFnExactUsesOfx
import Derived.Test.YtbdedpodbnhkfaaOpen
namespace Go.Proofs.Ytbdedpodbnhkfaa.PFnExactUsesOf
open Go.RowKit Go.ChangeShapes Go.WideShapes Go.Proofs.YtbdedpodbnhkfaaW.PrintWords Go.Proofs.YtbdedpodbnhkfaaW.PrintLast Go.Proofs.Ytbdedpodbnhkfaa
set_option linter.unusedVariables false

/-- A value of type 81 fits. -/
def ok81 (x : S81) : Prop := (Lit.int .i64 x.f0).wf = true ∧ (Lit.int .i64 x.f1).wf = true
theorem opens_T81 : Opn.Opens Try.prog k81 81 ok81 := by
  intro H enc w base spare held fuel cs x h
  obtain ⟨xs, n, _, _, hl, hlen, hf⟩ := DataW.trod_struct Try.underlying81 h
  have hC : Try.prog.cellsOf 81 = 2 := by kernel_rfl
  rw [hC] at hl
  match cs, hl with
  | [c0, c1], _ =>
    have e0 : Try.prog.cellsOf 2 = 1 := by kernel_rfl
    obtain ⟨z0, hz0⟩ : ∃ z, xs[0]? = some z := ⟨_, List.getElem?_eq_getElem (by rw [hlen]; decide)⟩
    have g0 : DataW.trod enc Try.prog w base spare held n 2 [c0] = some z0 := by have q := hf 0 _ rfl; rw [hz0] at q; simpa [e0] using q
    obtain ⟨y0, k0, o0⟩ := (Opn.opens_int Try.underlying2) H enc w base spare held n [c0] z0 g0
    have e1 : Try.prog.cellsOf 2 = 1 := by kernel_rfl
    obtain ⟨z1, hz1⟩ : ∃ z, xs[1]? = some z := ⟨_, List.getElem?_eq_getElem (by rw [hlen]; decide)⟩
    have g1 : DataW.trod enc Try.prog w base spare held n 2 [c1] = some z1 := by have q := hf 1 _ rfl; rw [hz1] at q; simpa [e1] using q
    obtain ⟨y1, k1, o1⟩ := (Opn.opens_int Try.underlying2) H enc w base spare held n [c1] z1 g1
    exact ⟨⟨y0, y1⟩, ⟨[c0], [c1], rfl, k0, k1⟩, o0, o1⟩

/-- THE ONE PURE STATEMENT of laws_FnExactUsesOf. -/
def laws_FnExactUsesOf.Pure : Prop := ∀ (l0 : List (S81)), (l0.length ≤ 9223372036854775807 ∧ ∀ x ∈ l0, (ok81 x)) → ∃ k, laws_FnExactUsesOf.f k l0 = some true
theorem laws_FnExactUsesOf.walk (P : laws_FnExactUsesOf.Pure) (A0 : Option Addr) (c0 : Nat) (l0 : List (S81)) (w : World) (hr0 : Kd.C k81 w A0 l0.length l0) (hc0 : l0.length ≤ c0) (wl0 : (l0.length ≤ 9223372036854775807 ∧ ∀ x ∈ l0, (ok81 x))) :
    Calls Try.prog 11 #[.slice A0 l0.length c0] w fun e w' => e = .returned (.bool true) ∧ Below w.heap.size w w' := by
  obtain ⟨k, h⟩ := P l0 wl0
  refine (laws_FnExactUsesOf.calls k _ _ l0 true w hr0 hc0 h).mono ?_
  rintro e w' ⟨rfl, hd⟩
  exact ⟨rfl, hd⟩

end Go.Proofs.Ytbdedpodbnhkfaa.PFnExactUsesOf
