-- WRITTEN BY wip/xprint.py out of the translation, with contracts of mine put in: Lean checks it.
import Derived.Test.YtigbabolmahlaaaPFnExactNestTracex
import Derived.Test.YtigbabolmahlaaaOpen
namespace Go.Proofs.Ytigbabolmahlaaa.PFnExactNestTrace
open Go.RowKit Go.ChangeShapes Go.WideShapes Go.Proofs.YtigbabolmahlaaaW.PrintWords Go.Proofs.YtigbabolmahlaaaW.PrintLast Go.Proofs.Ytigbabolmahlaaa
set_option linter.unusedVariables false

structure S40 where
  f0 : Int
  f1 : Int
  f2 : List Int
  f3 : List Int
def k40 : Kd S40 := Kd.iso (Kd.pair (Kd.int .i64) (Kd.pair (Kd.int .i64) (Kd.pair (Kd.slice 2 (Kd.int .i64)) ((Kd.slice 2 (Kd.int .i64)))))) (fun x : S40 => (x.f0, x.f1, x.f2, x.f3))
theorem k40_open {w : World} {x : S40} {cs : List Value} (h : k40.K w x cs) : ∃ A2 c2 A3 c3, cs = [.int .i64 x.f0, .int .i64 x.f1, .slice A2 x.f2.length c2, .slice A3 x.f3.length c3] ∧ x.f2.length ≤ c2 ∧ ((Kd.int .i64)).C w A2 x.f2.length x.f2 ∧ x.f3.length ≤ c3 ∧ ((Kd.int .i64)).C w A3 x.f3.length x.f3 := by
  obtain ⟨_, _, rfl, rfl, ⟨_, _, rfl, rfl, ⟨_, _, rfl, ⟨A2, c2, rfl, l2, g2⟩, ⟨A3, c3, rfl, l3, g3⟩⟩⟩⟩ := h
  exact ⟨A2, c2, A3, c3, rfl, l2, g2, l3, g3⟩

/-- A value of type 40 fits. -/
def ok40 (x_ : S40) : Prop := (Lit.int .i64 x_.f0).wf = true ∧ (Lit.int .i64 x_.f1).wf = true ∧ (x_.f2.length ≤ 9223372036854775807 ∧ ∀ x ∈ x_.f2, (Lit.int .i64 x).wf = true) ∧ (x_.f3.length ≤ 9223372036854775807 ∧ ∀ x ∈ x_.f3, (Lit.int .i64 x).wf = true)
set_option maxRecDepth 100000 in
theorem opens_T40 : Opn.Opens Try.prog k40 40 ok40 := by
  intro H enc w base spare held fuel cs x h
  obtain ⟨xs, n, _, _, hl, hlen, hf⟩ := DataW.trod_struct Try.underlying40 h
  have hC : Try.prog.cellsOf 40 = 4 := by kernel_rfl
  rw [hC] at hl
  match cs, hl with
  | [c0, c1, c2, c3], _ =>
    have e0 : Try.prog.cellsOf 2 = 1 := by kernel_rfl
    obtain ⟨z0, hz0⟩ : ∃ z, xs[0]? = some z := ⟨_, List.getElem?_eq_getElem (by rw [hlen]; decide)⟩
    have g0 : DataW.trod enc Try.prog w base spare held n 2 [c0] = some z0 := by have q := hf 0 _ rfl; rw [hz0] at q; simpa [e0] using q
    obtain ⟨y0, k0, o0⟩ := (Opn.opens_int Try.underlying2) H enc w base spare held n [c0] z0 g0
    have e1 : Try.prog.cellsOf 2 = 1 := by kernel_rfl
    obtain ⟨z1, hz1⟩ : ∃ z, xs[1]? = some z := ⟨_, List.getElem?_eq_getElem (by rw [hlen]; decide)⟩
    have g1 : DataW.trod enc Try.prog w base spare held n 2 [c1] = some z1 := by have q := hf 1 _ rfl; rw [hz1] at q; simpa [e1] using q
    obtain ⟨y1, k1, o1⟩ := (Opn.opens_int Try.underlying2) H enc w base spare held n [c1] z1 g1
    have e2 : Try.prog.cellsOf 23 = 1 := by kernel_rfl
    obtain ⟨z2, hz2⟩ : ∃ z, xs[2]? = some z := ⟨_, List.getElem?_eq_getElem (by rw [hlen]; decide)⟩
    have g2 : DataW.trod enc Try.prog w base spare held n 23 [c2] = some z2 := by have q := hf 2 _ rfl; rw [hz2] at q; simpa [e2] using q
    obtain ⟨y2, k2, o2⟩ := (Opn.opens_slice Try.underlying23 (by kernel_rfl) (Opn.opens_int Try.underlying2)) H enc w base spare held n [c2] z2 g2
    have e3 : Try.prog.cellsOf 23 = 1 := by kernel_rfl
    obtain ⟨z3, hz3⟩ : ∃ z, xs[3]? = some z := ⟨_, List.getElem?_eq_getElem (by rw [hlen]; decide)⟩
    have g3 : DataW.trod enc Try.prog w base spare held n 23 [c3] = some z3 := by have q := hf 3 _ rfl; rw [hz3] at q; simpa [e3] using q
    obtain ⟨y3, k3, o3⟩ := (Opn.opens_slice Try.underlying23 (by kernel_rfl) (Opn.opens_int Try.underlying2)) H enc w base spare held n [c3] z3 g3
    exact ⟨⟨y0, y1, y2, y3⟩, ⟨[c0], [c1, c2, c3], rfl, k0, ⟨[c1], [c2, c3], rfl, k1, ⟨[c2], [c3], rfl, k2, k3⟩⟩⟩, o0, o1, o2, o3⟩

/-- THE ONE PURE STATEMENT of laws_FnExactNestTrace. -/
def laws_FnExactNestTrace.Pure : Prop := ∀ (a0_0 : Int) (a0_1 : Int) (l0_2 : List Int) (l0_3 : List Int), (Lit.int .i64 a0_0).wf = true → (Lit.int .i64 a0_1).wf = true → (l0_2.length ≤ 9223372036854775807 ∧ ∀ x ∈ l0_2, (Lit.int .i64 x).wf = true) → (l0_3.length ≤ 9223372036854775807 ∧ ∀ x ∈ l0_3, (Lit.int .i64 x).wf = true) → ∃ k, laws_FnExactNestTrace.f k a0_0 a0_1 l0_2 l0_3 = some true
set_option maxRecDepth 100000 in
theorem laws_FnExactNestTrace.walk (P : laws_FnExactNestTrace.Pure) (a0_0 : Int) (a0_1 : Int) (A0_2 : Option Addr) (c0_2 : Nat) (l0_2 : List Int) (A0_3 : Option Addr) (c0_3 : Nat) (l0_3 : List Int) (w : World) (hr0_2 : Kd.C (Kd.int .i64) w A0_2 l0_2.length l0_2) (hc0_2 : l0_2.length ≤ c0_2) (hr0_3 : Kd.C (Kd.int .i64) w A0_3 l0_3.length l0_3) (hc0_3 : l0_3.length ≤ c0_3) (wa0_0 : (Lit.int .i64 a0_0).wf = true) (wa0_1 : (Lit.int .i64 a0_1).wf = true) (wl0_2 : (l0_2.length ≤ 9223372036854775807 ∧ ∀ x ∈ l0_2, (Lit.int .i64 x).wf = true)) (wl0_3 : (l0_3.length ≤ 9223372036854775807 ∧ ∀ x ∈ l0_3, (Lit.int .i64 x).wf = true)) :
    Calls Try.prog 5 #[.agg #[.int .i64 a0_0, .int .i64 a0_1, .slice A0_2 l0_2.length c0_2, .slice A0_3 l0_3.length c0_3]] w fun e w' => e = .returned (.bool true) ∧ Below w.heap.size w w' := by
  obtain ⟨k, h⟩ := P a0_0 a0_1 l0_2 l0_3 wa0_0 wa0_1 wl0_2 wl0_3
  refine (laws_FnExactNestTrace.calls k a0_0 a0_1 _ _ l0_2 _ _ l0_3 true w hr0_2 hc0_2 hr0_3 hc0_3 h).mono ?_
  rintro e w' ⟨rfl, hd⟩
  exact ⟨rfl, hd⟩

end Go.Proofs.Ytigbabolmahlaaa.PFnExactNestTrace
