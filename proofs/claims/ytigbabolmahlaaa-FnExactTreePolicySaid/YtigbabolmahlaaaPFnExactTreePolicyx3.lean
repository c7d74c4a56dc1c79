-- WRITTEN BY wip/xprint.py out of the translation, with contracts of mine put in: Lean checks it.
import Derived.Test.YtigbabolmahlaaaPFnExactTreePolicyx0
import Derived.Test.YtigbabolmahlaaaPFnExactTreePolicyx1
import Derived.Test.YtigbabolmahlaaaPFnExactTreePolicyx2
namespace Go.Proofs.Ytigbabolmahlaaa.PFnExactTreePolicy
open Go.RowKit Go.Proofs.YtigbabolmahlaaaW.PrintWords Go.Proofs.YtigbabolmahlaaaW.PrintLast Go.Proofs.YtigbabolmahlaaaW.PrintMore
attribute [local go_sem] max2_int min2_int max_two min_two max_three min_three max_four min_four   -- for this text's walks alone
set_option linter.unusedVariables false
set_option linter.unusedSimpArgs false

/-! ### laws_heldPolicy: function 13 -/
def laws_heldPolicy.f (k : Nat) (l0_0 : List (List Int)) (l0_1 : List Int) (a1 : Int) : Option (Int) := (laws_heldInt64SS.f k l0_0 a1).bind fun t162 => (if t162 < 0 then (some (-1)) else ((laws_heldInt64S.f k l0_1 t162).bind fun t163 => (if t163 < 0 then (some (-1)) else (some t163))))
theorem laws_heldPolicy.mono : ∀ a0 a1 a2 k, LeO (laws_heldPolicy.f k a0 a1 a2) (laws_heldPolicy.f (k + 1) a0 a1 a2) := by
  intro a0 a1 a2 k
  unfold laws_heldPolicy.f
  repeat' first
      | (with_reducible exact laws_heldInt64S.mono _ _ _)
      | (with_reducible exact laws_heldInt64SS.mono _ _ _)
      | (with_reducible exact LeO.refl _)
      | (with_reducible exact LeO.none _)
      | (with_reducible refine LeO.ite ?_ ?_)
      | (with_reducible refine LeO.bind ?_ (fun _ => ?_))
      | exact laws_heldInt64S.mono _ _ _
      | exact laws_heldInt64SS.mono _ _ _
      | exact LeO.none _
      | refine LeO.ite ?_ ?_
      | refine LeO.bind ?_ (fun _ => ?_)
set_option maxHeartbeats 8000000 in
set_option maxRecDepth 100000 in
theorem laws_heldPolicy.calls (k : Nat) (A0_0 : Option Addr) (c0_0 : Nat) (l0_0 : List (List Int)) (A0_1 : Option Addr) (c0_1 : Nat) (l0_1 : List Int) (a1 : Int) (r : Int) (w : World) (hr0_0 : Kd.C (Kd.slice 2 (Kd.int .i64)) w A0_0 l0_0.length l0_0) (hc0_0 : l0_0.length ≤ c0_0) (hr0_1 : Kd.C (Kd.int .i64) w A0_1 l0_1.length l0_1) (hc0_1 : l0_1.length ≤ c0_1) (h : laws_heldPolicy.f k l0_0 l0_1 a1 = some r) :
    Calls Try.prog 13 #[.agg #[.slice A0_0 l0_0.length c0_0, .slice A0_1 l0_1.length c0_1], .int .i64 a1] w fun e w' => e = .returned (.int .i64 r) ∧ Below w.heap.size w w' := by
  have hu25 := Try.underlying25
  have HR0_0 := Aside0.mk hr0_0
  have HC0_0 := Aside0.mk hc0_0
  clear hr0_0 hc0_0
  have HR0_1 := Aside0.mk hr0_1
  have HC0_1 := Aside0.mk hc0_1
  clear hr0_1 hc0_1
  have HB := Aside0.mk (Below.refl w.heap.size w)
  have H : ((laws_heldInt64SS.f k l0_0 a1).bind fun t162 => (if t162 < 0 then (some (-1)) else ((laws_heldInt64S.f k l0_1 t162).bind fun t163 => (if t163 < 0 then (some (-1)) else (some t163))))) = some r := h
  clear h
  replace H := Option.bind_eq_some_iff.mp H
  obtain ⟨t162, A30, H⟩ := H
  replace H : (if t162 < 0 then (some (-1)) else ((laws_heldInt64S.f k l0_1 t162).bind fun t163 => (if t163 < 0 then (some (-1)) else (some t163)))) = some r := H
  have A3 := Aside0.mk A30
  clear A30
  by_cases c4 : t162 < 0
  · rw [if_pos c4] at H
    have c4b0 : decide (t162 < 0) = true := decide_eq_true c4
    clear c4
    obtain rfl := Option.some.inj H
    go_enter Try.func13, Try.ntmps13
    go_wp2_with (first | ((with_reducible refine gate_dst (N := 2) rfl ?_); refine box_event ?hg (N := 2) ?hd (cs := #[.slice A0_0 l0_0.length c0_0, .slice A0_1 l0_1.length c0_1]) (t := 25) ?hr ?_; (case hd => rfl); (case hg => rfl); (case hr => first | (go_simp; done) | (go_simp; rfl)); intro gb161 hg w5 hbox hb; have n0_ := Aside0.mk (below_step (by repeat (first | (with_reducible first | exact HB.out | apply below_alloc | apply pw_below_drewN | apply below_drew1) | exact HB.out)) hb); have n1_ := Aside0.mk (hbox); have n2_ := Aside0.mk ((by rw [hg]; exact (below_size (by repeat (first | (with_reducible first | exact HB.out | apply below_alloc | apply pw_below_drewN | apply below_drew1) | exact HB.out))) : w.heap.size ≤ gb161)); have n3_ := Aside0.mk ((by rw [hg]; exact (below_size (by repeat (first | (with_reducible first | exact HB.out | apply below_alloc | apply pw_below_drewN | apply below_drew1) | exact HB.out))) : w.heap.size ≤ gb161)); clear HB; have HB := n0_; have BK161 := n1_; have GW161 := n2_; have GE161 := n3_; clear n0_ n1_ n2_ n3_; clear hb hbox hg; have hcz6_0 : w5.cell? ⟨gb161, 0, none⟩ = some (.slice A0_0 l0_0.length c0_0) := (blk_cell BK161.out 0).trans rfl; have hcz6_1 : w5.cell? ⟨gb161, 1, none⟩ = some (.slice A0_1 l0_1.length c0_1) := (blk_cell BK161.out 1).trans rfl; have hfz6_0 := blk_frozen BK161.out 0; have hfz6_1 := blk_frozen BK161.out 1) | ((with_reducible refine gate_callee (f := 42) rfl ?_); refine goesL_ (some 8) rfl rfl Try.func42 (by kernel_rfl) rfl #[.slice A0_0 l0_0.length c0_0, .int .i64 a1] rfl (by (try simp only [List.map_toArray, List.map_cons, List.map_nil]); first | done | rfl | (simp only [List.length_drop, List.length_take]; rfl)) ?_; (with_reducible refine (laws_heldInt64SS.calls k _ _ l0_0 a1 t162 _ ?side1 ?side2 A3.out).mono ?_); (case side1 => repeat (first | exact (Kd.C_below HR0_0.out HB.out) | (with_reducible refine Kd.C_alloc ?_ _) | (with_reducible refine Kd.C_drewN ?_ _) | (with_reducible refine Kd.C_drew ?_))); (case side2 => exact HC0_0.out); rintro e w' ⟨rfl, ⟨nd, rfl⟩⟩; refine ⟨_, rfl, ?_⟩))
    go_ret
    exact ⟨by first | rfl | (simp [errW_none, errW_some] <;> rfl) | (simp [*, errW_none, errW_some] <;> rfl), by repeat (first | (with_reducible first | exact HB.out | apply below_alloc | apply pw_below_drewN | apply below_drew1 | refine below_set ?_ GE161.out) | exact HB.out)⟩
  · rw [if_neg c4] at H
    have c4b0 : decide (t162 < 0) = false := decide_eq_false c4
    clear c4
    replace H := Option.bind_eq_some_iff.mp H
    obtain ⟨t163, A70, H⟩ := H
    replace H : (if t163 < 0 then (some (-1)) else (some t163)) = some r := H
    have A7 := Aside0.mk A70
    clear A70
    by_cases c8 : t163 < 0
    · rw [if_pos c8] at H
      have c8b0 : decide (t163 < 0) = true := decide_eq_true c8
      clear c8
      obtain rfl := Option.some.inj H
      go_enter Try.func13, Try.ntmps13
      go_wp2_with (first | ((with_reducible refine gate_dst (N := 2) rfl ?_); refine box_event ?hg (N := 2) ?hd (cs := #[.slice A0_0 l0_0.length c0_0, .slice A0_1 l0_1.length c0_1]) (t := 25) ?hr ?_; (case hd => rfl); (case hg => rfl); (case hr => first | (go_simp; done) | (go_simp; rfl)); intro gb161 hg w9 hbox hb; have n0_ := Aside0.mk (below_step (by repeat (first | (with_reducible first | exact HB.out | apply below_alloc | apply pw_below_drewN | apply below_drew1) | exact HB.out)) hb); have n1_ := Aside0.mk (hbox); have n2_ := Aside0.mk ((by rw [hg]; exact (below_size (by repeat (first | (with_reducible first | exact HB.out | apply below_alloc | apply pw_below_drewN | apply below_drew1) | exact HB.out))) : w.heap.size ≤ gb161)); have n3_ := Aside0.mk ((by rw [hg]; exact (below_size (by repeat (first | (with_reducible first | exact HB.out | apply below_alloc | apply pw_below_drewN | apply below_drew1) | exact HB.out))) : w.heap.size ≤ gb161)); clear HB; have HB := n0_; have BK161 := n1_; have GW161 := n2_; have GE161 := n3_; clear n0_ n1_ n2_ n3_; clear hb hbox hg; have hcz10_0 : w9.cell? ⟨gb161, 0, none⟩ = some (.slice A0_0 l0_0.length c0_0) := (blk_cell BK161.out 0).trans rfl; have hcz10_1 : w9.cell? ⟨gb161, 1, none⟩ = some (.slice A0_1 l0_1.length c0_1) := (blk_cell BK161.out 1).trans rfl; have hfz10_0 := blk_frozen BK161.out 0; have hfz10_1 := blk_frozen BK161.out 1) | ((with_reducible refine gate_callee (f := 42) rfl ?_); refine goesL_ (some 8) rfl rfl Try.func42 (by kernel_rfl) rfl #[.slice A0_0 l0_0.length c0_0, .int .i64 a1] rfl (by (try simp only [List.map_toArray, List.map_cons, List.map_nil]); first | done | rfl | (simp only [List.length_drop, List.length_take]; rfl)) ?_; (with_reducible refine (laws_heldInt64SS.calls k _ _ l0_0 a1 t162 _ ?side1 ?side2 A3.out).mono ?_); (case side1 => repeat (first | exact (Kd.C_below HR0_0.out HB.out) | (with_reducible refine Kd.C_alloc ?_ _) | (with_reducible refine Kd.C_drewN ?_ _) | (with_reducible refine Kd.C_drew ?_))); (case side2 => exact HC0_0.out); rintro e w' ⟨rfl, ⟨nd, rfl⟩⟩; refine ⟨_, rfl, ?_⟩) | ((with_reducible refine gate_callee (f := 22) rfl ?_); refine goesL_ (some 14) rfl rfl Try.func22 (by kernel_rfl) rfl #[.slice A0_1 l0_1.length c0_1, .int .i64 t162] rfl (by (try simp only [List.map_toArray, List.map_cons, List.map_nil]); first | done | rfl | (simp only [List.length_drop, List.length_take]; rfl)) ?_; (with_reducible refine (laws_heldInt64S.calls k _ _ l0_1 t162 t163 _ ?side1 ?side2 A7.out).mono ?_); (case side1 => repeat (first | exact (Kd.C_below HR0_1.out (by repeat (first | (with_reducible first | exact HB.out | apply below_alloc | apply pw_below_drewN | apply below_drew1 | refine below_set ?_ GE161.out) | exact HB.out))) | (with_reducible refine Kd.C_alloc ?_ _) | (with_reducible refine Kd.C_drewN ?_ _) | (with_reducible refine Kd.C_drew ?_))); (case side2 => exact HC0_1.out); rintro e w' ⟨rfl, ⟨nd, rfl⟩⟩; refine ⟨_, rfl, ?_⟩))
      go_ret
      exact ⟨by first | rfl | (simp [errW_none, errW_some] <;> rfl) | (simp [*, errW_none, errW_some] <;> rfl), by repeat (first | (with_reducible first | exact HB.out | apply below_alloc | apply pw_below_drewN | apply below_drew1 | refine below_set ?_ GE161.out) | exact HB.out)⟩
    · rw [if_neg c8] at H
      have c8b0 : decide (t163 < 0) = false := decide_eq_false c8
      clear c8
      obtain rfl := Option.some.inj H
      go_enter Try.func13, Try.ntmps13
      go_wp2_with (first | ((with_reducible refine gate_dst (N := 2) rfl ?_); refine box_event ?hg (N := 2) ?hd (cs := #[.slice A0_0 l0_0.length c0_0, .slice A0_1 l0_1.length c0_1]) (t := 25) ?hr ?_; (case hd => rfl); (case hg => rfl); (case hr => first | (go_simp; done) | (go_simp; rfl)); intro gb161 hg w11 hbox hb; have n0_ := Aside0.mk (below_step (by repeat (first | (with_reducible first | exact HB.out | apply below_alloc | apply pw_below_drewN | apply below_drew1) | exact HB.out)) hb); have n1_ := Aside0.mk (hbox); have n2_ := Aside0.mk ((by rw [hg]; exact (below_size (by repeat (first | (with_reducible first | exact HB.out | apply below_alloc | apply pw_below_drewN | apply below_drew1) | exact HB.out))) : w.heap.size ≤ gb161)); have n3_ := Aside0.mk ((by rw [hg]; exact (below_size (by repeat (first | (with_reducible first | exact HB.out | apply below_alloc | apply pw_below_drewN | apply below_drew1) | exact HB.out))) : w.heap.size ≤ gb161)); clear HB; have HB := n0_; have BK161 := n1_; have GW161 := n2_; have GE161 := n3_; clear n0_ n1_ n2_ n3_; clear hb hbox hg; have hcz12_0 : w11.cell? ⟨gb161, 0, none⟩ = some (.slice A0_0 l0_0.length c0_0) := (blk_cell BK161.out 0).trans rfl; have hcz12_1 : w11.cell? ⟨gb161, 1, none⟩ = some (.slice A0_1 l0_1.length c0_1) := (blk_cell BK161.out 1).trans rfl; have hfz12_0 := blk_frozen BK161.out 0; have hfz12_1 := blk_frozen BK161.out 1) | ((with_reducible refine gate_callee (f := 42) rfl ?_); refine goesL_ (some 8) rfl rfl Try.func42 (by kernel_rfl) rfl #[.slice A0_0 l0_0.length c0_0, .int .i64 a1] rfl (by (try simp only [List.map_toArray, List.map_cons, List.map_nil]); first | done | rfl | (simp only [List.length_drop, List.length_take]; rfl)) ?_; (with_reducible refine (laws_heldInt64SS.calls k _ _ l0_0 a1 t162 _ ?side1 ?side2 A3.out).mono ?_); (case side1 => repeat (first | exact (Kd.C_below HR0_0.out HB.out) | (with_reducible refine Kd.C_alloc ?_ _) | (with_reducible refine Kd.C_drewN ?_ _) | (with_reducible refine Kd.C_drew ?_))); (case side2 => exact HC0_0.out); rintro e w' ⟨rfl, ⟨nd, rfl⟩⟩; refine ⟨_, rfl, ?_⟩) | ((with_reducible refine gate_callee (f := 22) rfl ?_); refine goesL_ (some 14) rfl rfl Try.func22 (by kernel_rfl) rfl #[.slice A0_1 l0_1.length c0_1, .int .i64 t162] rfl (by (try simp only [List.map_toArray, List.map_cons, List.map_nil]); first | done | rfl | (simp only [List.length_drop, List.length_take]; rfl)) ?_; (with_reducible refine (laws_heldInt64S.calls k _ _ l0_1 t162 t163 _ ?side1 ?side2 A7.out).mono ?_); (case side1 => repeat (first | exact (Kd.C_below HR0_1.out (by repeat (first | (with_reducible first | exact HB.out | apply below_alloc | apply pw_below_drewN | apply below_drew1 | refine below_set ?_ GE161.out) | exact HB.out))) | (with_reducible refine Kd.C_alloc ?_ _) | (with_reducible refine Kd.C_drewN ?_ _) | (with_reducible refine Kd.C_drew ?_))); (case side2 => exact HC0_1.out); rintro e w' ⟨rfl, ⟨nd, rfl⟩⟩; refine ⟨_, rfl, ?_⟩))
      go_ret
      exact ⟨by first | rfl | (simp [errW_none, errW_some] <;> rfl) | (simp [*, errW_none, errW_some] <;> rfl), by repeat (first | (with_reducible first | exact HB.out | apply below_alloc | apply pw_below_drewN | apply below_drew1 | refine below_set ?_ GE161.out) | exact HB.out)⟩

/-! ### laws_FnExactTreePolicy: function 3: by hand -/
def laws_FnExactTreePolicy.Good (k : Nat) (a0 : Int) : Prop := ∃ (H : List (List Int)) (M : List Int) (b : Bool) (m1 m2 : Int) (H' : List (List Int)) (M' : List Int),
  spec_TreePolicy.f k a0 = some (H, M, b) ∧ impl_TreePolicy.f a0 = some (H, M, b) ∧ laws_eqPolicy.f k H M H M = some true ∧ laws_markInt64SS.l0 k H 1 0 = some (m1, H') ∧ laws_markInt64S.f k M m1 = some (m2, M') ∧ 0 ≤ m2 ∧ laws_heldPolicy.f k H' M' 1 = some m2
open Classical in
noncomputable def laws_FnExactTreePolicy.f (k : Nat) (a0 : Int) : Option Bool := if laws_FnExactTreePolicy.Good k a0 then some true else none
set_option maxHeartbeats 8000000 in
set_option maxRecDepth 100000 in
theorem laws_FnExactTreePolicy.calls (k : Nat) (a0 : Int) (r : Bool) (w : World) (h : laws_FnExactTreePolicy.f k a0 = some r) :
    Calls Try.prog 3 #[.int .i64 a0] w fun e w' => e = .returned (.bool r) ∧ Below w.heap.size w w' := by
  have hu25 := Try.underlying25
  unfold laws_FnExactTreePolicy.f at h
  split at h
  case isFalse => cases h
  case isTrue hg =>
  obtain rfl := Option.some.inj h
  clear h
  obtain ⟨H, M, b, m1, m2, H', M', e1, e2, e3, e4, e5, e6, e7⟩ := hg
  have E1 := Aside0.mk e1
  have E2 := Aside0.mk e2
  have E3 := Aside0.mk e3
  have E4 := Aside0.mk e4
  have E5 := Aside0.mk e5
  have E6 := Aside0.mk e6
  have E7 := Aside0.mk e7
  clear e1 e2 e3 e4 e5 e6 e7
  go_enter Try.func3, Try.ntmps3
  go_wp2_with fail
  refine (spec_TreePolicy.calls k a0 H M b w E1.out).mono ?_
  rintro e w1 ⟨v0, v1, rfl, s1, r1, b1⟩
  obtain ⟨A0, c0, rfl⟩ := Kd.S_slice s1
  obtain ⟨A1, c1, rfl⟩ := Kd.R_slice r1
  have P1 := pol_box s1 r1 (Nat.le_refl _)
  have k0 := blk_new w1 (.cells #[.slice A0 H.length c0, .slice A1 M.length c1] 25)
  have l0 := size_alloc w1 (.cells #[.slice A0 H.length c0, .slice A1 M.length c1] 25)
  have s0 := Kd.S_alloc P1.1 (.cells #[.slice A0 H.length c0, .slice A1 M.length c1] 25)
  have r0 := Kd.R_alloc P1.2 (.cells #[.slice A0 H.length c0, .slice A1 M.length c1] 25)
  have bb := below_alloc b1 (.cells #[.slice A0 H.length c0, .slice A1 M.length c1] 25)
  have L1 := Aside0.mk (Below.size b1)
  clear s1 r1 b1 P1
  go_wp2_with fail
  generalize w1.alloc (.cells #[.slice A0 H.length c0, .slice A1 M.length c1] 25) = W1 at k0 l0 s0 r0 bb ⊢
  have S0 := Aside0.mk s0
  have R0 := Aside0.mk r0
  have K0 := Aside0.mk k0
  have B0 := Aside0.mk bb
  have L2 := Aside0.mk l0
  clear s0 r0 k0 bb l0
  refine (impl_TreePolicy.calls a0 H M b _ E2.out).mono ?_
  rintro e w2 ⟨v0, v1, rfl, s2, r2, b2⟩
  obtain ⟨Ag0, cg0, rfl⟩ := Kd.S_slice s2
  obtain ⟨Ag1, cg1, rfl⟩ := Kd.R_slice r2
  have P2 := pol_box s2 r2 (Below.size B0.out)
  have bl := Below.size b2
  have nS0 := Kd.S_alloc (Kd.S_below S0.out b2) (.cells #[.slice Ag0 H.length cg0, .slice Ag1 M.length cg1] 25)
  have nR0 := Kd.R_alloc (Kd.R_below R0.out b2) (.cells #[.slice Ag0 H.length cg0, .slice Ag1 M.length cg1] 25)
  have nK0 := blk_alloc (blk_below K0.out b2) (.cells #[.slice Ag0 H.length cg0, .slice Ag1 M.length cg1] 25)
  have nB0 := below_alloc (below_step B0.out b2) (.cells #[.slice Ag0 H.length cg0, .slice Ag1 M.length cg1] 25)
  have k1 := blk_new w2 (.cells #[.slice Ag0 H.length cg0, .slice Ag1 M.length cg1] 25)
  have l1 := size_alloc w2 (.cells #[.slice Ag0 H.length cg0, .slice Ag1 M.length cg1] 25)
  have s1 := Kd.S_alloc P2.1 (.cells #[.slice Ag0 H.length cg0, .slice Ag1 M.length cg1] 25)
  have r1 := Kd.R_alloc P2.2 (.cells #[.slice Ag0 H.length cg0, .slice Ag1 M.length cg1] 25)
  have c00 := (blk_cell nK0 0).trans rfl
  have c01 := (blk_cell nK0 1).trans rfl
  have c10 := (blk_cell k1 0).trans rfl
  have c11 := (blk_cell k1 1).trans rfl
  clear S0 R0 K0 B0 s2 r2 P2 b2
  go_wp2_with fail
  generalize w2.alloc (.cells #[.slice Ag0 H.length cg0, .slice Ag1 M.length cg1] 25) = W2 at nS0 nR0 nK0 nB0 k1 l1 s1 r1 c00 c01 c10 c11 ⊢
  have S0 := Aside0.mk nS0
  have R0 := Aside0.mk nR0
  have K0 := Aside0.mk nK0
  have B0 := Aside0.mk nB0
  have S1 := Aside0.mk s1
  have R1 := Aside0.mk r1
  have K1 := Aside0.mk k1
  have L3 := Aside0.mk bl
  have L4 := Aside0.mk l1
  clear nS0 nR0 nK0 nB0 s1 r1 k1 bl l1 c00 c01 c10 c11
  refine (laws_eqPolicy.calls k _ _ H _ _ M _ _ H _ _ M true _ (Kd.S_reads' S1.out).2.2 (Kd.S_reads' S1.out).2.1 (Kd.R_reads' R1.out).2.2 (Kd.R_reads' R1.out).2.1 (Kd.S_reads' S0.out).2.2 (Kd.S_reads' S0.out).2.1 (Kd.R_reads' R0.out).2.2 (Kd.R_reads' R0.out).2.1 E3.out).mono ?_
  rintro e w3 ⟨rfl, b3⟩
  have nS0 := Aside0.mk (Kd.S_below S0.out b3)
  have nR0 := Aside0.mk (Kd.R_below R0.out b3)
  have nK0 := Aside0.mk (blk_below K0.out b3)
  have nS1 := Aside0.mk (Kd.S_below S1.out b3)
  have nR1 := Aside0.mk (Kd.R_below R1.out b3)
  have nK1 := Aside0.mk (blk_below K1.out b3)
  have nB0 := Aside0.mk (below_step B0.out b3)
  have L5 := Aside0.mk (Below.size b3)
  clear S0 R0 K0 S1 R1 K1 B0 b3
  have c10 := (blk_cell nK1.out 0).trans rfl
  have c11 := (blk_cell nK1.out 1).trans rfl
  go_wp2_with fail
  clear c10 c11
  refine (laws_markPolicy.calls k _ _ _ H M 1 m1 m2 H' M' w _ nB0.out nS1.out nR1.out E4.out E5.out).mono ?_
  rintro e w4 ⟨rfl, s4, r4, b4, k4⟩
  have S0 := Aside0.mk (S_kept nS0.out k4 (fun k_ h1_ h2_ => by have := L1.out; have := L2.out; omega))
  have R0 := Aside0.mk (R_kept nR0.out k4 (fun k_ h1_ h2_ => by have := L1.out; have := L2.out; omega))
  have K0 := Aside0.mk (blk_kept nK0.out k4 (fun h_ => by have := L2.out; omega))
  have K1 := Aside0.mk (blk_kept nK1.out k4 (fun h_ => by omega))
  have S1 := Aside0.mk s4
  have R1 := Aside0.mk r4
  have B0 := Aside0.mk b4
  clear nS0 nR0 nK0 nS1 nR1 nK1 nB0 s4 r4 b4 k4
  have c10 := (blk_cell K1.out 0).trans rfl
  have c11 := (blk_cell K1.out 1).trans rfl
  have d6 : decide (m2 < 0) = false := decide_eq_false (by have := E6.out; omega)
  have lH := (Kd.S_reads' S1.out).1
  have lM := (Kd.R_reads' R1.out).1
  have hc := laws_heldPolicy.calls k _ _ H' _ _ M' 1 m2 _ (Kd.S_reads' S1.out).2.2 (by rw [← lH]; exact (Kd.S_reads' S1.out).2.1) (Kd.R_reads' R1.out).2.2 (by rw [← lM]; exact (Kd.R_reads' R1.out).2.1) E7.out
  rw [← lH, ← lM] at hc
  clear lH lM
  go_wp2_with fail
  refine hc.mono ?_
  clear hc c10 c11
  rintro e w5 ⟨rfl, b5⟩
  have nS0 := Aside0.mk (Kd.S_below S0.out b5)
  have nR0 := Aside0.mk (Kd.R_below R0.out b5)
  have nK0 := Aside0.mk (blk_below K0.out b5)
  have nS1 := Aside0.mk (Kd.S_below S1.out b5)
  have nR1 := Aside0.mk (Kd.R_below R1.out b5)
  have nK1 := Aside0.mk (blk_below K1.out b5)
  have nB0 := Aside0.mk (below_step B0.out b5)
  clear S0 R0 K0 S1 R1 K1 B0 b5
  have S0 := nS0
  have R0 := nR0
  have K0 := nK0
  have S1 := nS1
  have R1 := nR1
  have K1 := nK1
  have B0 := nB0
  clear nS0 nR0 nK0 nS1 nR1 nK1 nB0
  go_wp2_with fail
  refine (impl_TreePolicy.calls a0 H M b _ E2.out).mono ?_
  rintro e w6 ⟨v0, v1, rfl, s2, r2, b2⟩
  obtain ⟨Ah0, ch0, rfl⟩ := Kd.S_slice s2
  obtain ⟨Ah1, ch1, rfl⟩ := Kd.R_slice r2
  have nS0 := Kd.S_alloc (Kd.S_below S0.out b2) (.cells #[.slice Ah0 H.length ch0, .slice Ah1 M.length ch1] 25)
  have nR0 := Kd.R_alloc (Kd.R_below R0.out b2) (.cells #[.slice Ah0 H.length ch0, .slice Ah1 M.length ch1] 25)
  have nK0 := blk_alloc (blk_below K0.out b2) (.cells #[.slice Ah0 H.length ch0, .slice Ah1 M.length ch1] 25)
  have nS1 := Kd.S_alloc (Kd.S_below S1.out b2) (.cells #[.slice Ah0 H.length ch0, .slice Ah1 M.length ch1] 25)
  have nR1 := Kd.R_alloc (Kd.R_below R1.out b2) (.cells #[.slice Ah0 H.length ch0, .slice Ah1 M.length ch1] 25)
  have nK1 := blk_alloc (blk_below K1.out b2) (.cells #[.slice Ah0 H.length ch0, .slice Ah1 M.length ch1] 25)
  have nB0 := below_alloc (below_step B0.out b2) (.cells #[.slice Ah0 H.length ch0, .slice Ah1 M.length ch1] 25)
  have k2 := blk_new w6 (.cells #[.slice Ah0 H.length ch0, .slice Ah1 M.length ch1] 25)
  have s3 := Kd.S_alloc s2 (.cells #[.slice Ah0 H.length ch0, .slice Ah1 M.length ch1] 25)
  have r3 := Kd.R_alloc r2 (.cells #[.slice Ah0 H.length ch0, .slice Ah1 M.length ch1] 25)
  have c00 := (blk_cell nK0 0).trans rfl
  have c01 := (blk_cell nK0 1).trans rfl
  have c20 := (blk_cell k2 0).trans rfl
  have c21 := (blk_cell k2 1).trans rfl
  clear S0 R0 K0 S1 R1 K1 B0 s2 r2 b2
  go_wp2_with fail
  generalize w6.alloc (.cells #[.slice Ah0 H.length ch0, .slice Ah1 M.length ch1] 25) = W6 at nS0 nR0 nK0 nS1 nR1 nK1 nB0 k2 s3 r3 c00 c01 c20 c21 ⊢
  clear c00 c01 c20 c21 k2 nK0
  refine (laws_eqPolicy.calls k _ _ H _ _ M _ _ H _ _ M true _ (Kd.S_reads' s3).2.2 (Kd.S_reads' s3).2.1 (Kd.R_reads' r3).2.2 (Kd.R_reads' r3).2.1 (Kd.S_reads' nS0).2.2 (Kd.S_reads' nS0).2.1 (Kd.R_reads' nR0).2.2 (Kd.R_reads' nR0).2.1 E3.out).mono ?_
  rintro e w7 ⟨rfl, b7⟩
  have S1 := Aside0.mk (Kd.S_below nS1 b7)
  have R1 := Aside0.mk (Kd.R_below nR1 b7)
  have K1 := Aside0.mk (blk_below nK1 b7)
  have B0 := Aside0.mk (below_step nB0 b7)
  clear nS0 nR0 nS1 nR1 nK1 nB0 s3 r3 b7
  have c10 := (blk_cell K1.out 0).trans rfl
  have c11 := (blk_cell K1.out 1).trans rfl
  have lH := (Kd.S_reads' S1.out).1
  have lM := (Kd.R_reads' R1.out).1
  have hc := laws_heldPolicy.calls k _ _ H' _ _ M' 1 m2 _ (Kd.S_reads' S1.out).2.2 (by rw [← lH]; exact (Kd.S_reads' S1.out).2.1) (Kd.R_reads' R1.out).2.2 (by rw [← lM]; exact (Kd.R_reads' R1.out).2.1) E7.out
  rw [← lH, ← lM] at hc
  clear lH lM
  go_wp2_with fail
  refine hc.mono ?_
  clear hc c10 c11
  rintro e w8 ⟨rfl, b8⟩
  have B8 := Aside0.mk (below_step B0.out b8)
  clear S1 R1 K1 B0 b8
  go_wp2
  go_ret
  exact ⟨rfl, B8.out⟩


end Go.Proofs.Ytigbabolmahlaaa.PFnExactTreePolicy
