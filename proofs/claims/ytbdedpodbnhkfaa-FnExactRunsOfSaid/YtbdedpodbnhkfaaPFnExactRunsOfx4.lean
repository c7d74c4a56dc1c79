-- WRITTEN BY wip/xprint.py out of the translation, with contracts of mine put in: Lean checks it.
import Derived.Test.YtbdedpodbnhkfaaPFnExactRunsOfx0
import Derived.Test.YtbdedpodbnhkfaaPFnExactRunsOfx1
import Derived.Test.YtbdedpodbnhkfaaPFnExactRunsOfx2
import Derived.Test.YtbdedpodbnhkfaaPFnExactRunsOfx3
namespace Go.Proofs.Ytbdedpodbnhkfaa.PFnExactRunsOf
open Go.RowKit Go.Proofs.YtbdedpodbnhkfaaW.PrintWords Go.Proofs.YtbdedpodbnhkfaaW.PrintLast Go.Proofs.YtbdedpodbnhkfaaW.PrintMore
attribute [local go_sem] max2_int min2_int max_two min_two max_three min_three max_four min_four   -- for this text's walks alone
set_option linter.unusedVariables false
set_option linter.unusedSimpArgs false

/-! ### laws_FnExactRunsOf: function 8: by hand -/
def laws_FnExactRunsOf.Good (k : Nat) (l0 : List Int) : Prop := 1048576 < l0.length ∨ (l0.length ≤ 1048576 ∧ ∃ (R : List (List Int)) (b : Bool) (m : Int) (R' : List (List Int)) (m2 : Int) (l' : List Int),
  laws_toInt64S.f k l0 = some l0 ∧ spec_RunsOf.f k l0 = some (R, b) ∧ impl_RunsOf.f k l0 = some (R, b) ∧ laws_eqInt64SS.f k R R = some true ∧ laws_eqInt64S.f k l0 l0 = some true ∧ laws_markInt64S.f k l0 1 = some (m2, l') ∧ 0 ≤ m2 ∧ laws_markInt64SS.l0 k R 1 0 = some (m, R') ∧ 0 ≤ m ∧ laws_heldInt64SS.f k R' 1 = some m)
open Classical in
noncomputable def laws_FnExactRunsOf.f (k : Nat) (l0 : List Int) : Option Bool := if laws_FnExactRunsOf.Good k l0 then some true else none

set_option maxHeartbeats 8000000 in
set_option maxRecDepth 100000 in
theorem laws_FnExactRunsOf.calls (k : Nat) (A0 : Option Addr) (c0 : Nat) (l0 : List Int) (r : Bool) (w : World) (hr0 : Kd.C (Kd.int .i64) w A0 l0.length l0) (hc0 : l0.length ≤ c0) (h : laws_FnExactRunsOf.f k l0 = some r) :
    Calls Try.prog 8 #[.slice A0 l0.length c0] w fun e w' => e = .returned (.bool r) ∧ Below w.heap.size w w' := by
  unfold laws_FnExactRunsOf.f at h
  split at h
  case isFalse => cases h
  case isTrue hg =>
  obtain rfl := Option.some.inj h
  clear h
  rcases hg with hg | ⟨hl, R, b, m, R', m2, l', e1, e2, e3, e4, e5, e6, e7, e8, e9, e10⟩
  · have d1 : decide ((l0.length : Int) > 1048576) = true := decide_eq_true (by omega)
    clear hr0 hg
    go_enter Try.func8, Try.ntmps8
    go_wp2
    go_ret
    exact ⟨rfl, Below.refl _ _⟩
  · have d1 : decide ((l0.length : Int) > 1048576) = false := decide_eq_false (by omega)
    have E1 := Aside0.mk e1
    have E2 := Aside0.mk e2
    have E3 := Aside0.mk e3
    have E4 := Aside0.mk e4
    have E5 := Aside0.mk e5
    have E6 := Aside0.mk e6
    have E7 := Aside0.mk e7
    have E8 := Aside0.mk e8
    have E9 := Aside0.mk e9
    have E10 := Aside0.mk e10
    have HR0 := Aside0.mk hr0
    have HC0 := Aside0.mk hc0
    clear e1 e2 e3 e4 e5 e6 e7 e8 e9 e10 hr0 hc0 hl
    go_enter Try.func8, Try.ntmps8
    go_wp2_with fail
    refine (laws_toInt64S.calls k _ _ l0 l0 _ HR0.out HC0.out E1.out).mono ?_
    rintro e w1 ⟨v1, rfl, h1, b1⟩
    have X1 := R_box h1 (Nat.le_refl _)
    obtain ⟨A1, c1, rfl⟩ := Kd.R_slice X1
    have q1 := Kd.R_reads' X1
    have HQ1 := Aside0.mk q1
    have B1 := Aside0.mk b1
    clear h1 b1 X1 q1
    go_wp2_with fail
    refine (spec_RunsOf.calls k _ _ l0 R b _ HQ1.out.2.2 HQ1.out.2.1 E2.out).mono ?_
    rintro e w2 ⟨v2, rfl, h2, b2⟩
    have S2 := Aside0.mk (S_box h2 (Below.size B1.out))
    have B2 := Aside0.mk (B1.out.trans (b2.mono B1.out.size))
    have L2 := Aside0.mk (Below.size b2)
    clear h2 b2 HQ1
    go_wp2_with fail
    refine (laws_toInt64S.calls k _ _ l0 l0 _ (Kd.C_below HR0.out B2.out) HC0.out E1.out).mono ?_
    rintro e w3 ⟨v3, rfl, h3, b3⟩
    have R3 := Aside0.mk (R_box h3 (Below.size B2.out))
    have S2' := Aside0.mk (Kd.S_below S2.out b3)
    have B3 := Aside0.mk (B2.out.trans (b3.mono B2.out.size))
    have L3 := Aside0.mk (Below.size b3)
    clear h3 b3 S2
    obtain ⟨A3, c3, rfl⟩ := Kd.R_slice R3.out
    go_wp2_with fail
    refine (impl_RunsOf.calls k _ _ l0 R b _ (Kd.R_reads' R3.out).2.2 (Kd.R_reads' R3.out).2.1 E3.out).mono ?_
    rintro e w4 ⟨v4, rfl, h4, b4⟩
    have S4 := Aside0.mk (S_box h4 (Below.size B3.out))
    have S2 := Aside0.mk (Kd.S_below S2'.out b4)
    have R3' := Aside0.mk (Kd.R_below R3.out b4)
    have B4 := Aside0.mk (B3.out.trans (b4.mono B3.out.size))
    have L4 := Aside0.mk (Below.size b4)
    clear h4 b4 S2' R3
    obtain ⟨A2, c2, rfl⟩ := Kd.S_slice S2.out
    obtain ⟨A4, c4, rfl⟩ := Kd.S_slice S4.out
    go_wp2_with fail
    refine (laws_eqInt64SS.calls k _ _ R _ _ R true _ (Kd.S_reads' S4.out).2.2 (Kd.S_reads' S4.out).2.1 (Kd.S_reads' S2.out).2.2 (Kd.S_reads' S2.out).2.1 E4.out).mono ?_
    rintro e w5 ⟨rfl, hd⟩
    have b5 := Drawn0.below hd
    have S2' := Aside0.mk (Kd.S_below S2.out b5)
    have S4' := Aside0.mk (Kd.S_below S4.out b5)
    have R3 := Aside0.mk (Kd.R_below R3'.out b5)
    have B5 := Aside0.mk (B4.out.trans (b5.mono B4.out.size))
    have L5 := Aside0.mk (Below.size b5)
    clear hd b5 S2 S4 R3' B4
    go_wp2_with fail
    refine (laws_toInt64S.calls k _ _ l0 l0 _ (Kd.C_below HR0.out B5.out) HC0.out E1.out).mono ?_
    rintro e w6 ⟨v6, rfl, h6, b6⟩
    have R6 := Aside0.mk (R_box h6 (Below.size B5.out))
    have S2 := Aside0.mk (Kd.S_below S2'.out b6)
    have S4 := Aside0.mk (Kd.S_below S4'.out b6)
    have R3' := Aside0.mk (Kd.R_below R3.out b6)
    have B6 := Aside0.mk (B5.out.trans (b6.mono B5.out.size))
    have L6 := Aside0.mk (Below.size b6)
    clear h6 b6 S2' S4' R3 B5
    obtain ⟨A6, c6, rfl⟩ := Kd.R_slice R6.out
    go_wp2_with fail
    refine (laws_eqInt64S.calls k _ _ l0 _ _ l0 true _ (Kd.R_reads' R3'.out).2.2 (Kd.R_reads' R3'.out).2.1 (Kd.R_reads' R6.out).2.2 (Kd.R_reads' R6.out).2.1 E5.out).mono ?_
    rintro e w7 ⟨rfl, hd⟩
    have b7 := Drawn0.below hd
    have S2' := Aside0.mk (Kd.S_below S2.out b7)
    have S4' := Aside0.mk (Kd.S_below S4.out b7)
    have R3 := Aside0.mk (Kd.R_below R3'.out b7)
    have B7 := Aside0.mk (B6.out.trans (b7.mono B6.out.size))
    have L7 := Aside0.mk (Below.size b7)
    clear hd b7 S2 S4 R3' R6 B6
    go_wp2_with fail
    refine (laws_markInt64S.calls k _ _ l0 1 m2 l' w _ B7.out R3.out E6.out).mono ?_
    rintro e w8 ⟨rfl, h8, b8, k8⟩
    have S2 := Aside0.mk (S_kept S2'.out k8 (fun k_ h1_ h2_ => by have := L2.out; have := L3.out; have := L4.out; omega))
    have S4 := Aside0.mk (S_kept S4'.out k8 (fun k_ h1_ h2_ => by have := L2.out; have := L3.out; have := L4.out; omega))
    have B8 := Aside0.mk b8
    have L8 := Aside0.mk k8.1
    clear h8 b8 k8 S2' S4' R3 B7
    have c8 : decide (m2 < 0) = false := decide_eq_false (by have := E7.out; omega)
    go_wp2_with fail
    refine (laws_eqInt64SS.calls k _ _ R _ _ R true _ (Kd.S_reads' S4.out).2.2 (Kd.S_reads' S4.out).2.1 (Kd.S_reads' S2.out).2.2 (Kd.S_reads' S2.out).2.1 E4.out).mono ?_
    rintro e w9 ⟨rfl, hd⟩
    have b9 := Drawn0.below hd
    have S2' := Aside0.mk (Kd.S_below S2.out b9)
    have S4' := Aside0.mk (Kd.S_below S4.out b9)
    have B9 := Aside0.mk (B8.out.trans (b9.mono B8.out.size))
    have L9 := Aside0.mk (Below.size b9)
    clear hd b9 S2 S4 B8 c8
    go_wp2_with fail
    refine (laws_markInt64SS.calls k _ _ R 1 m R' w _ B9.out S4'.out E8.out).mono ?_
    rintro e w10 ⟨rfl, h10, b10, k10⟩
    have S2 := Aside0.mk (S_kept S2'.out k10 (fun k_ h1_ h2_ => by have := L2.out; have := L3.out; have := L4.out; omega))
    have S4 := Aside0.mk h10
    have B10 := Aside0.mk b10
    have L10 := Aside0.mk k10.1
    clear h10 b10 k10 S2' S4' B9
    have c10 : decide (m < 0) = false := decide_eq_false (by have := E9.out; omega)
    have hl4 := (Kd.S_reads' S4.out).1
    have hc11 := laws_heldInt64SS.calls k _ _ R' 1 m _ (Kd.S_reads' S4.out).2.2 (by rw [← hl4]; exact (Kd.S_reads' S4.out).2.1) E10.out
    rw [← hl4] at hc11
    clear hl4
    go_wp2_with fail
    refine hc11.mono ?_
    clear hc11
    rintro e w11 ⟨rfl, hd⟩
    have b11 := Drawn0.below hd
    have S2' := Aside0.mk (Kd.S_below S2.out b11)
    have S4' := Aside0.mk (Kd.S_below S4.out b11)
    have B11 := Aside0.mk (B10.out.trans (b11.mono B10.out.size))
    have L11 := Aside0.mk (Below.size b11)
    clear hd b11 S2 S4 B10
    go_wp2_with fail
    refine (laws_toInt64S.calls k _ _ l0 l0 _ (Kd.C_below HR0.out B11.out) HC0.out E1.out).mono ?_
    rintro e w12 ⟨v12, rfl, h12, b12⟩
    have R12 := Aside0.mk (R_box h12 (Below.size B11.out))
    have S2 := Aside0.mk (Kd.S_below S2'.out b12)
    have S4 := Aside0.mk (Kd.S_below S4'.out b12)
    have B12 := Aside0.mk (B11.out.trans (b12.mono B11.out.size))
    have L12 := Aside0.mk (Below.size b12)
    clear h12 b12 S2' S4' B11
    obtain ⟨A12, c12, rfl⟩ := Kd.R_slice R12.out
    go_wp2_with fail
    refine (impl_RunsOf.calls k _ _ l0 R b _ (Kd.R_reads' R12.out).2.2 (Kd.R_reads' R12.out).2.1 E3.out).mono ?_
    rintro e w13 ⟨v13, rfl, h13, b13⟩
    have S13 := Aside0.mk (S_box h13 (Below.size B12.out))
    have S2' := Aside0.mk (Kd.S_below S2.out b13)
    have S4' := Aside0.mk (Kd.S_below S4.out b13)
    have B13 := Aside0.mk (B12.out.trans (b13.mono B12.out.size))
    have L13 := Aside0.mk (Below.size b13)
    clear h13 b13 S2 S4 R12 B12
    obtain ⟨A13, c13, rfl⟩ := Kd.S_slice S13.out
    go_wp2_with fail
    refine (laws_eqInt64SS.calls k _ _ R _ _ R true _ (Kd.S_reads' S13.out).2.2 (Kd.S_reads' S13.out).2.1 (Kd.S_reads' S2'.out).2.2 (Kd.S_reads' S2'.out).2.1 E4.out).mono ?_
    rintro e w14 ⟨rfl, hd⟩
    have b14 := Drawn0.below hd
    have S4 := Aside0.mk (Kd.S_below S4'.out b14)
    have B14 := Aside0.mk (B13.out.trans (b14.mono B13.out.size))
    have L14 := Aside0.mk (Below.size b14)
    clear hd b14 S2' S4' S13 B13
    have hl4 := (Kd.S_reads' S4.out).1
    have hc15 := laws_heldInt64SS.calls k _ _ R' 1 m _ (Kd.S_reads' S4.out).2.2 (by rw [← hl4]; exact (Kd.S_reads' S4.out).2.1) E10.out
    rw [← hl4] at hc15
    clear hl4
    go_wp2_with fail
    refine hc15.mono ?_
    clear hc15
    rintro e w15 ⟨rfl, hd⟩
    have b15 := Drawn0.below hd
    have B15 := Aside0.mk (B14.out.trans (b15.mono B14.out.size))
    clear hd b15 S4 B14
    go_wp2
    go_ret
    exact ⟨rfl, B15.out⟩


end Go.Proofs.Ytbdedpodbnhkfaa.PFnExactRunsOf
