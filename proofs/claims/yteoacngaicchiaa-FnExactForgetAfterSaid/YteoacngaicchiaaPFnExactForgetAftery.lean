-- WRITTEN BY wip/xprint.py out of the translation, with contracts of mine put in: Lean checks it.
import Derived.Test.YteoacngaicchiaaPFnExactForgetAfterx
import Derived.Test.YteoacngaicchiaaOpen
namespace Go.Proofs.Yteoacngaicchiaa.PFnExactForgetAfter
open Go.RowKit Go.ChangeShapes Go.WideShapes Go.Proofs.YteoacngaicchiaaW.PrintWords Go.Proofs.YteoacngaicchiaaW.PrintLast Go.Proofs.Yteoacngaicchiaa
set_option linter.unusedVariables false

structure S39 where
  f0 : List (List Int)
  f1 : List Int
def k39 : Kd S39 := Kd.iso (Kd.pair (Kd.slice 24 (Kd.slice 2 (Kd.int .i64))) ((Kd.slice 2 (Kd.int .i64)))) (fun x : S39 => (x.f0, x.f1))
theorem k39_open {w : World} {x : S39} {cs : List Value} (h : k39.K w x cs) : ∃ A0 c0 A1 c1, cs = [.slice A0 x.f0.length c0, .slice A1 x.f1.length c1] ∧ x.f0.length ≤ c0 ∧ ((Kd.slice 2 (Kd.int .i64))).C w A0 x.f0.length x.f0 ∧ x.f1.length ≤ c1 ∧ ((Kd.int .i64)).C w A1 x.f1.length x.f1 := by
  obtain ⟨_, _, rfl, ⟨A0, c0, rfl, l0, g0⟩, ⟨A1, c1, rfl, l1, g1⟩⟩ := h
  exact ⟨A0, c0, A1, c1, rfl, l0, g0, l1, g1⟩

/-- A value of type 39 fits. -/
def ok39 (x_ : S39) : Prop := (x_.f0.length ≤ 9223372036854775807 ∧ ∀ x ∈ x_.f0, (x.length ≤ 9223372036854775807 ∧ ∀ y ∈ x, (Lit.int .i64 y).wf = true)) ∧ (x_.f1.length ≤ 9223372036854775807 ∧ ∀ x ∈ x_.f1, (Lit.int .i64 x).wf = true)
set_option maxRecDepth 100000 in
theorem opens_T39 : Opn.Opens Try.prog k39 39 ok39 := by
  intro H enc w base spare held fuel cs x h
  obtain ⟨xs, n, _, _, hl, hlen, hf⟩ := DataW.trod_struct Try.underlying39 h
  have hC : Try.prog.cellsOf 39 = 2 := by kernel_rfl
  rw [hC] at hl
  match cs, hl with
  | [c0, c1], _ =>
    have e0 : Try.prog.cellsOf 37 = 1 := by kernel_rfl
    obtain ⟨z0, hz0⟩ : ∃ z, xs[0]? = some z := ⟨_, List.getElem?_eq_getElem (by rw [hlen]; decide)⟩
    have g0 : DataW.trod enc Try.prog w base spare held n 37 [c0] = some z0 := by have q := hf 0 _ rfl; rw [hz0] at q; simpa [e0] using q
    obtain ⟨y0, k0, o0⟩ := (Opn.opens_slice Try.underlying37 (by kernel_rfl) (Opn.opens_slice Try.underlying24 (by kernel_rfl) (Opn.opens_int Try.underlying2))) H enc w base spare held n [c0] z0 g0
    have e1 : Try.prog.cellsOf 24 = 1 := by kernel_rfl
    obtain ⟨z1, hz1⟩ : ∃ z, xs[1]? = some z := ⟨_, List.getElem?_eq_getElem (by rw [hlen]; decide)⟩
    have g1 : DataW.trod enc Try.prog w base spare held n 24 [c1] = some z1 := by have q := hf 1 _ rfl; rw [hz1] at q; simpa [e1] using q
    obtain ⟨y1, k1, o1⟩ := (Opn.opens_slice Try.underlying24 (by kernel_rfl) (Opn.opens_int Try.underlying2)) H enc w base spare held n [c1] z1 g1
    exact ⟨⟨y0, y1⟩, ⟨[c0], [c1], rfl, k0, k1⟩, o0, o1⟩

/-- THE ONE PURE STATEMENT of laws_FnExactForgetAfter. -/
def laws_FnExactForgetAfter.Pure : Prop := ∀ (l0_0 : List (List Int)) (l0_1 : List Int), (l0_0.length ≤ 9223372036854775807 ∧ ∀ x ∈ l0_0, (x.length ≤ 9223372036854775807 ∧ ∀ y ∈ x, (Lit.int .i64 y).wf = true)) → (l0_1.length ≤ 9223372036854775807 ∧ ∀ x ∈ l0_1, (Lit.int .i64 x).wf = true) → ∃ k, laws_FnExactForgetAfter.f k l0_0 l0_1 = some true
set_option maxRecDepth 100000 in
theorem laws_FnExactForgetAfter.walk (P : laws_FnExactForgetAfter.Pure) (A0_0 : Option Addr) (c0_0 : Nat) (l0_0 : List (List Int)) (A0_1 : Option Addr) (c0_1 : Nat) (l0_1 : List Int) (w : World) (hr0_0 : Kd.C (Kd.slice 2 (Kd.int .i64)) w A0_0 l0_0.length l0_0) (hc0_0 : l0_0.length ≤ c0_0) (hr0_1 : Kd.C (Kd.int .i64) w A0_1 l0_1.length l0_1) (hc0_1 : l0_1.length ≤ c0_1) (wl0_0 : (l0_0.length ≤ 9223372036854775807 ∧ ∀ x ∈ l0_0, (x.length ≤ 9223372036854775807 ∧ ∀ y ∈ x, (Lit.int .i64 y).wf = true))) (wl0_1 : (l0_1.length ≤ 9223372036854775807 ∧ ∀ x ∈ l0_1, (Lit.int .i64 x).wf = true)) :
    Calls Try.prog 14 #[.agg #[.slice A0_0 l0_0.length c0_0, .slice A0_1 l0_1.length c0_1]] w fun e w' => e = .returned (.bool true) ∧ Below w.heap.size w w' := by
  obtain ⟨k, h⟩ := P l0_0 l0_1 wl0_0 wl0_1
  refine (laws_FnExactForgetAfter.calls k _ _ l0_0 _ _ l0_1 true w hr0_0 hc0_0 hr0_1 hc0_1 h).mono ?_
  rintro e w' ⟨rfl, hd⟩
  exact ⟨rfl, hd⟩

end Go.Proofs.Yteoacngaicchiaa.PFnExactForgetAfter
