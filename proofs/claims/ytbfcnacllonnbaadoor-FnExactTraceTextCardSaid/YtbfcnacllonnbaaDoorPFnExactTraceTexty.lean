-- WRITTEN BY wip/xprint.py out of the translation, with contracts of mine put in: Lean checks it.
import Derived.Test.YtbfcnacllonnbaaDoorPFnExactTraceTextx
import Derived.Test.YtbfcnacllonnbaaDoorOpen
namespace Go.Proofs.YtbfcnacllonnbaaDoor.PFnExactTraceText
open Go.RowKit Go.ChangeShapes Go.WideShapes Go.Proofs.YtbfcnacllonnbaaDoorW.PrintWords Go.Proofs.YtbfcnacllonnbaaDoorW.PrintLast Go.Proofs.YtbfcnacllonnbaaDoor
set_option linter.unusedVariables false

/-- A value of type 88 fits. -/
def ok88 (x : S88) : Prop := (Lit.int .i64 x.f0).wf = true ∧ (Lit.int .i64 x.f1).wf = true
set_option maxRecDepth 100000 in
theorem opens_T88 : Opn.Opens Tryd.prog k88 88 ok88 := by
  intro H enc w base spare held fuel cs x h
  obtain ⟨xs, n, _, _, hl, hlen, hf⟩ := DataW.trod_struct Tryd.underlying88 h
  have hC : Tryd.prog.cellsOf 88 = 2 := by kernel_rfl
  rw [hC] at hl
  match cs, hl with
  | [c0, c1], _ =>
    have e0 : Tryd.prog.cellsOf 2 = 1 := by kernel_rfl
    obtain ⟨z0, hz0⟩ : ∃ z, xs[0]? = some z := ⟨_, List.getElem?_eq_getElem (by rw [hlen]; decide)⟩
    have g0 : DataW.trod enc Tryd.prog w base spare held n 2 [c0] = some z0 := by have q := hf 0 _ rfl; rw [hz0] at q; simpa [e0] using q
    obtain ⟨y0, k0, o0⟩ := (Opn.opens_int Tryd.underlying2) H enc w base spare held n [c0] z0 g0
    have e1 : Tryd.prog.cellsOf 2 = 1 := by kernel_rfl
    obtain ⟨z1, hz1⟩ : ∃ z, xs[1]? = some z := ⟨_, List.getElem?_eq_getElem (by rw [hlen]; decide)⟩
    have g1 : DataW.trod enc Tryd.prog w base spare held n 2 [c1] = some z1 := by have q := hf 1 _ rfl; rw [hz1] at q; simpa [e1] using q
    obtain ⟨y1, k1, o1⟩ := (Opn.opens_int Tryd.underlying2) H enc w base spare held n [c1] z1 g1
    exact ⟨⟨y0, y1⟩, ⟨[c0], [c1], rfl, k0, k1⟩, o0, o1⟩

/-- THE ONE PURE STATEMENT of laws_FnExactTraceText. -/
def laws_FnExactTraceText.Pure : Prop := ∀ (l0 : List (S88)), (l0.length ≤ 9223372036854775807 ∧ ∀ x ∈ l0, (ok88 x)) → ∃ k, laws_FnExactTraceText.f k l0 = some true
set_option maxRecDepth 100000 in
theorem laws_FnExactTraceText.walk (P : laws_FnExactTraceText.Pure) (A0 : Option Addr) (c0 : Nat) (l0 : List (S88)) (w : World) (hr0 : Kd.C k88 w A0 l0.length l0) (hc0 : l0.length ≤ c0) (wl0 : (l0.length ≤ 9223372036854775807 ∧ ∀ x ∈ l0, (ok88 x))) (hamb : Door.Tab w) :
    Calls Tryd.prog 10 #[.slice A0 l0.length c0] w fun e w' => e = .returned (.bool true) ∧ Below w.heap.size w w' := by
  obtain ⟨k, h⟩ := P l0 wl0
  refine (laws_FnExactTraceText.calls k _ _ l0 true w hr0 hc0 h hamb).mono ?_
  rintro e w' ⟨rfl, hd⟩
  exact ⟨rfl, hd⟩

end Go.Proofs.YtbfcnacllonnbaaDoor.PFnExactTraceText
