-- WRITTEN BY wip/xprint.py out of the translation, with contracts of mine put in: Lean checks it.
import Derived.Test.YteoacngaicchiaaPFnExactEmptyContentsx0
import Derived.Test.YteoacngaicchiaaPFnExactEmptyContentsx1
import Derived.Test.YteoacngaicchiaaPFnExactEmptyContentsx2
import Derived.Test.YteoacngaicchiaaPFnExactEmptyContentsx3
namespace Go.Proofs.Yteoacngaicchiaa.PFnExactEmptyContents
open Go.RowKit Go.Proofs.YteoacngaicchiaaW.PrintWords Go.Proofs.YteoacngaicchiaaW.PrintLast Go.Proofs.YteoacngaicchiaaW.PrintMore
attribute [local go_sem] max2_int min2_int max_two min_two max_three min_three max_four min_four   -- for this text's walks alone
set_option linter.unusedVariables false
set_option linter.unusedSimpArgs false

/-! ### laws_FnExactEmptyContents: function 13: by hand -/
def laws_FnExactEmptyContents.Good (k : Nat) (l0_0 : List (List Int)) (l0_1 : List Int) : Prop := ∃ z : Int, laws_szPolicy.f k l0_0 l0_1 1048576 = some z ∧ (z < 0 ∨ (0 ≤ z ∧ ∃ (R : List Int) (b : Bool) (m1 m2 : Int) (H' : List (List Int)) (M' : List Int) (m3 : Int) (R' : List Int),
  laws_toPolicy.f k l0_0 l0_1 = some (l0_0, l0_1) ∧ spec_EmptyContents.f k l0_0 l0_1 = some (R, b) ∧ impl_EmptyContents.f l0_0 l0_1 = some (R, b) ∧ laws_eqInt64S.f k R R = some true ∧ laws_eqPolicy.f k l0_0 l0_1 l0_0 l0_1 = some true ∧ laws_markInt64SS.l0 k l0_0 1 0 = some (m1, H') ∧ laws_markInt64S.f k l0_1 m1 = some (m2, M') ∧ 0 ≤ m2 ∧ laws_markInt64S.f k R 1 = some (m3, R') ∧ 0 ≤ m3 ∧ laws_heldInt64S.f k R' 1 = some m3))
open Classical in
noncomputable def laws_FnExactEmptyContents.f (k : Nat) (l0_0 : List (List Int)) (l0_1 : List Int) : Option Bool := if laws_FnExactEmptyContents.Good k l0_0 l0_1 then some true else none
set_option maxHeartbeats 8000000 in
set_option maxRecDepth 100000 in
theorem laws_FnExactEmptyContents.calls (k : Nat) (A0_0 : Option Addr) (c0_0 : Nat) (l0_0 : List (List Int)) (A0_1 : Option Addr) (c0_1 : Nat) (l0_1 : List Int) (r : Bool) (w : World) (hr0_0 : Kd.C (Kd.slice 2 (Kd.int .i64)) w A0_0 l0_0.length l0_0) (hc0_0 : l0_0.length ≤ c0_0) (hr0_1 : Kd.C (Kd.int .i64) w A0_1 l0_1.length l0_1) (hc0_1 : l0_1.length ≤ c0_1) (h : laws_FnExactEmptyContents.f k l0_0 l0_1 = some r) :
    Calls Try.prog 13 #[.agg #[.slice A0_0 l0_0.length c0_0, .slice A0_1 l0_1.length c0_1]] w fun e w' => e = .returned (.bool r) ∧ Below w.heap.size w w' := by
  have hu42 := Try.underlying42
  have hu39 := Try.underlying39
  unfold laws_FnExactEmptyContents.f at h
  split at h
  case isFalse => cases h
  case isTrue hg =>
  obtain rfl := Option.some.inj h
  clear h
  obtain ⟨z, ez, hg⟩ := hg
  have HR0 := Aside0.mk hr0_0
  have HR1 := Aside0.mk hr0_1
  have HC0 := Aside0.mk hc0_0
  have HC1 := Aside0.mk hc0_1
  have EZ := Aside0.mk ez
  clear hr0_0 hr0_1 hc0_0 hc0_1 ez
  have k0 := blk_new w (.cells #[.slice A0_0 l0_0.length c0_0, .slice A0_1 l0_1.length c0_1] 39)
  have s0 := size_alloc w (.cells #[.slice A0_0 l0_0.length c0_0, .slice A0_1 l0_1.length c0_1] 39)
  have b0 := below_alloc (Below.refl w.heap.size w) (.cells #[.slice A0_0 l0_0.length c0_0, .slice A0_1 l0_1.length c0_1] 39)
  have c00 := (blk_cell k0 0).trans rfl
  have c01 := (blk_cell k0 1).trans rfl
  rcases hg with hg | ⟨hz, R, b, m1, m2, H', M', m3, R', e1, e2, e3, e4, e5, e6, e7, e8, e9, e10, e11⟩
  · have d1 : decide (z < 0) = true := decide_eq_true hg
    clear hg
    go_enter Try.func13, Try.ntmps13
    go_wp2_with fail
    generalize w.alloc (.cells #[.slice A0_0 l0_0.length c0_0, .slice A0_1 l0_1.length c0_1] 39) = W0 at k0 s0 b0 c00 c01 ⊢
    refine (laws_szPolicy.calls k _ _ l0_0 _ _ l0_1 1048576 z _ (Kd.C_below HR0.out b0) HC0.out (Kd.C_below HR1.out b0) HC1.out EZ.out).mono ?_
    rintro e w1 ⟨rfl, b1⟩
    have B1 := Aside0.mk (below_step b0 b1)
    clear k0 s0 b0 c00 c01 b1
    go_wp2
    go_ret
    exact ⟨rfl, B1.out⟩
  · have d1 : decide (z < 0) = false := decide_eq_false (by omega)
    have E1 := Aside0.mk e1
    have E2 := Aside0.mk e2
    have E3 := Aside0.mk e3
    have E4 := Aside0.mk e4
    have E5 := Aside0.mk e5
    have E6 := Aside0.mk e6
    have E7 := Aside0.mk e7
    have E8 := Aside0.mk e8
    have E9 := Aside0.mk e9
    have E10 := Aside0.mk e10
    have E11 := Aside0.mk e11
    clear e1 e2 e3 e4 e5 e6 e7 e8 e9 e10 e11 hz
    go_enter Try.func13, Try.ntmps13
    go_wp2_with fail
    generalize w.alloc (.cells #[.slice A0_0 l0_0.length c0_0, .slice A0_1 l0_1.length c0_1] 39) = W0 at k0 s0 b0 c00 c01 ⊢
    refine (laws_szPolicy.calls k _ _ l0_0 _ _ l0_1 1048576 z _ (Kd.C_below HR0.out b0) HC0.out (Kd.C_below HR1.out b0) HC1.out EZ.out).mono ?_
    rintro e w1 ⟨rfl, b1⟩
    have K0 := Aside0.mk (blk_below k0 b1)
    have B1 := Aside0.mk (below_step b0 b1)
    have L0 := Aside0.mk s0
    have L1 := Aside0.mk (Below.size b1)
    clear k0 s0 b0 c00 c01 b1
    have c00 := (blk_cell K0.out 0).trans rfl
    have c01 := (blk_cell K0.out 1).trans rfl
    go_wp2_with fail
    refine (laws_toPolicy.calls k _ _ l0_0 _ _ l0_1 l0_0 l0_1 _ (Kd.C_below HR0.out B1.out) HC0.out (Kd.C_below HR1.out B1.out) HC1.out E1.out).mono ?_
    rintro e w2 ⟨v0, v1, rfl, s2, r2, b2⟩
    obtain ⟨A2, c2, rfl⟩ := Kd.S_slice s2
    obtain ⟨A3, c3, rfl⟩ := Kd.R_slice r2
    have q2 := Kd.S_reads' s2
    have q3 := Kd.R_reads' r2
    have Q2 := Aside0.mk q2
    have Q3 := Aside0.mk q3
    have K1 := Aside0.mk (blk_below K0.out b2)
    have B2 := Aside0.mk (below_step B1.out b2)
    have L2 := Aside0.mk (Below.size b2)
    clear c00 c01 s2 r2 q2 q3 b2 K0 B1
    go_wp2_with fail
    refine (spec_EmptyContents.calls k _ _ l0_0 _ _ l0_1 R b _ Q2.out.2.2 Q2.out.2.1 Q3.out.2.2 Q3.out.2.1 E2.out).mono ?_
    rintro e w3 ⟨v3, rfl, r3, b3⟩
    have RW := Aside0.mk (R_box r3 (Below.size B2.out))
    have K0 := Aside0.mk (blk_below K1.out b3)
    have B3 := Aside0.mk (below_step B2.out b3)
    have L3 := Aside0.mk (Below.size b3)
    clear r3 b3 Q2 Q3 K1 B2
    have c00 := (blk_cell K0.out 0).trans rfl
    have c01 := (blk_cell K0.out 1).trans rfl
    go_wp2_with fail
    refine (laws_toPolicy.calls k _ _ l0_0 _ _ l0_1 l0_0 l0_1 _ (Kd.C_below HR0.out B3.out) HC0.out (Kd.C_below HR1.out B3.out) HC1.out E1.out).mono ?_
    rintro e w4 ⟨v4, v5, rfl, s4, r4, b4⟩
    obtain ⟨AH, cH, rfl⟩ := Kd.S_slice s4
    obtain ⟨AM, cM, rfl⟩ := Kd.R_slice r4
    have P4 := pol_box s4 r4 (Below.size B3.out)
    have S1 := Aside0.mk P4.1
    have R1 := Aside0.mk P4.2
    have RW1 := Aside0.mk (Kd.R_below RW.out b4)
    have K1 := Aside0.mk (blk_below K0.out b4)
    have B4 := Aside0.mk (below_step B3.out b4)
    have L4 := Aside0.mk (Below.size b4)
    clear c00 c01 s4 r4 b4 P4 RW K0 B3
    go_wp2_with fail
    have nS := Kd.S_alloc S1.out (.cells #[.slice AH l0_0.length cH, .slice AM l0_1.length cM] 42)
    have nR := Kd.R_alloc R1.out (.cells #[.slice AH l0_0.length cH, .slice AM l0_1.length cM] 42)
    have nW := Kd.R_alloc RW1.out (.cells #[.slice AH l0_0.length cH, .slice AM l0_1.length cM] 42)
    have nK := blk_alloc K1.out (.cells #[.slice AH l0_0.length cH, .slice AM l0_1.length cM] 42)
    have nB := below_alloc B4.out (.cells #[.slice AH l0_0.length cH, .slice AM l0_1.length cM] 42)
    have kx := blk_new w4 (.cells #[.slice AH l0_0.length cH, .slice AM l0_1.length cM] 42)
    have lx := size_alloc w4 (.cells #[.slice AH l0_0.length cH, .slice AM l0_1.length cM] 42)
    clear S1 R1 RW1 K1 B4
    generalize w4.alloc (.cells #[.slice AH l0_0.length cH, .slice AM l0_1.length cM] 42) = W4 at nS nR nW nK nB kx lx ⊢
    have q4 := Kd.S_reads' nS
    have q5 := Kd.R_reads' nR
    refine (impl_EmptyContents.calls _ _ l0_0 _ _ l0_1 R b _ q4.2.2 q4.2.1 q5.2.2 q5.2.1 E3.out).mono ?_
    rintro e w5 ⟨v6, rfl, r5, b5⟩
    have RG := Aside0.mk (R_box r5 (Below.size nB))
    have S1 := Aside0.mk (Kd.S_below nS b5)
    have R1 := Aside0.mk (Kd.R_below nR b5)
    have RW := Aside0.mk (Kd.R_below nW b5)
    have K0 := Aside0.mk (blk_below nK b5)
    have KX := Aside0.mk (blk_below kx b5)
    have B5 := Aside0.mk (below_step nB b5)
    have L5 := Aside0.mk lx
    have L6 := Aside0.mk (Below.size b5)
    clear nS nR nW nK nB kx lx q4 q5 r5 b5
    obtain ⟨AW, cW, rfl⟩ := Kd.R_slice RW.out
    obtain ⟨AG, cG, rfl⟩ := Kd.R_slice RG.out
    go_wp2_with fail
    refine (laws_eqInt64S.calls k _ _ R _ _ R true _ (Kd.R_reads' RG.out).2.2 (Kd.R_reads' RG.out).2.1 (Kd.R_reads' RW.out).2.2 (Kd.R_reads' RW.out).2.1 E4.out).mono ?_
    rintro e w6 ⟨rfl, hd⟩
    have b6 := Drawn0.below hd
    have RG1 := Aside0.mk (Kd.R_below RG.out b6)
    have S2 := Aside0.mk (Kd.S_below S1.out b6)
    have R2 := Aside0.mk (Kd.R_below R1.out b6)
    have RW1 := Aside0.mk (Kd.R_below RW.out b6)
    have K1 := Aside0.mk (blk_below K0.out b6)
    have KX1 := Aside0.mk (blk_below KX.out b6)
    have B6 := Aside0.mk (below_step B5.out b6)
    have L7 := Aside0.mk (Below.size b6)
    clear hd b6 RG S1 R1 RW K0 KX B5
    have c00 := (blk_cell K1.out 0).trans rfl
    have c01 := (blk_cell K1.out 1).trans rfl
    have c10 := (blk_cell KX1.out 0).trans rfl
    have c11 := (blk_cell KX1.out 1).trans rfl
    go_wp2_with fail
    clear c00 c01 c10 c11
    have RG := Aside0.mk (Kd.R_drew RG1.out)
    have S1 := Aside0.mk (Kd.S_drew S2.out)
    have R1 := Aside0.mk (Kd.R_drew R2.out)
    have RW := Aside0.mk (Kd.R_drew RW1.out)
    have K0 := Aside0.mk (blk_drew K1.out)
    have KX := Aside0.mk (blk_drew KX1.out)
    have B7 := Aside0.mk (below_drew1 B6.out)
    have L8 := Aside0.mk (show w6.drew.heap.size = w6.heap.size from rfl)
    clear RG1 S2 R2 RW1 K1 KX1 B6
    have mixed : Try.prog.follows .mixedOrders = true := by kernel_rfl
    refine start_ (n := 5) (S := fun w' => w'.cell? ⟨w4.heap.size, 0, none⟩ = some (.slice AH l0_0.length cH) ∧ w'.cell? ⟨w4.heap.size, 1, none⟩ = some (.slice AM l0_1.length cM) ∧ w'.cell? ⟨w.heap.size, 0, none⟩ = some (.slice A0_0 l0_0.length c0_0) ∧ w'.cell? ⟨w.heap.size, 1, none⟩ = some (.slice A0_1 l0_1.length c0_1)) (ds := []) #[false, false, false, false, false] (by kernel_rfl) rfl rfl ⟨(blk_cell KX.out 0).trans rfl, (blk_cell KX.out 1).trans rfl, (blk_cell K0.out 0).trans rfl, (blk_cell K0.out 1).trans rfl⟩ (fun hHeld => ?_)
    generalize w6.drew = w7 at RG S1 R1 RW K0 KX B7 L8 hHeld ⊢
    refine take_ (i := 0) (N := some 41) (v := ?_) (a' := ?_) #[true, false, false, false, false] rfl rfl (by kernel_rfl) (fun _ _ _ h => h) (Or.inl ⟨by rfl, ?_⟩) hHeld ?_ ?_
    rotate_left
    · rintro w' ⟨s0, s1, s2, s3⟩
      go_simp
      with_reducible rfl
    rotate_left
    · simp only [Act.put, List.setIfInBounds_toArray, List.set_cons_zero, List.set_cons_succ, i64_w, i32_w]
      rfl
    refine take_ (i := 1) (N := some 42) (v := ?_) (a' := ?_) #[true, true, false, false, false] rfl rfl (by kernel_rfl) (fun _ _ _ h => h) (Or.inl ⟨by rfl, ?_⟩) hHeld ?_ ?_
    rotate_left
    · rintro w' ⟨s0, s1, s2, s3⟩
      go_simp
      with_reducible rfl
    rotate_left
    · simp only [Act.put, List.setIfInBounds_toArray, List.set_cons_zero, List.set_cons_succ, i64_w, i32_w]
      rfl
    refine one_ (i := 2) (N := some 43) #[true, true, true, false, false] rfl rfl (by kernel_rfl) (by decide) (fun K hK => ?_)
    refine goes_ Try.func34 (by kernel_rfl) rfl #[.agg #[.slice A0_0 l0_0.length c0_0, .slice A0_1 l0_1.length c0_1]] (by rfl) rfl rfl (by (try simp only [List.map_toArray, List.map_cons, List.map_nil]); first | done | rfl) ?_
    refine (laws_toPolicy.calls k _ _ l0_0 _ _ l0_1 l0_0 l0_1 _ (Kd.C_below HR0.out B7.out) HC0.out (Kd.C_below HR1.out B7.out) HC1.out E1.out).mono ?_
    rintro e w8 ⟨v8, v9, rfl, s8, r8, b8⟩
    refine ⟨_, rfl, ?_⟩
    obtain ⟨A8, c8, rfl⟩ := Kd.S_slice s8
    obtain ⟨A9, c9, rfl⟩ := Kd.R_slice r8
    have q8 := Aside0.mk (Kd.S_reads' s8)
    have q9 := Aside0.mk (Kd.R_reads' r8)
    have RG1 := Aside0.mk (Kd.R_below RG.out b8)
    have S2 := Aside0.mk (Kd.S_below S1.out b8)
    have R2 := Aside0.mk (Kd.R_below R1.out b8)
    have RW1 := Aside0.mk (Kd.R_below RW.out b8)
    have K1 := Aside0.mk (blk_below K0.out b8)
    have KX1 := Aside0.mk (blk_below KX.out b8)
    have B8 := Aside0.mk (below_step B7.out b8)
    have L9 := Aside0.mk (Below.size b8)
    clear s8 r8 b8 RG S1 R1 RW K0 KX B7
    refine hK.out _ _ ⟨(blk_cell KX1.out 0).trans rfl, (blk_cell KX1.out 1).trans rfl, (blk_cell K1.out 0).trans rfl, (blk_cell K1.out 1).trans rfl⟩ (fun hHeld => ?_)
    clear hK K
    refine norm_ (a' := ?_) ?_ ?_
    rotate_left
    · show Act.put _ (some 43) _ = _
      simp only [Act.put, List.setIfInBounds_toArray, List.set_cons_zero, List.set_cons_succ, i64_w, i32_w]
      rfl
    refine one_ (i := 3) (N := some 44) #[true, true, true, true, false] rfl rfl (by kernel_rfl) (by decide) (fun K hK => ?_)
    refine goes_ Try.func36 (by kernel_rfl) rfl #[.agg #[.slice AH l0_0.length cH, .slice AM l0_1.length cM], .agg #[.slice A8 l0_0.length c8, .slice A9 l0_1.length c9]] (by rfl) rfl rfl (by (try simp only [List.map_toArray, List.map_cons, List.map_nil]); first | done | rfl) ?_
    refine (laws_eqPolicy.calls k _ _ l0_0 _ _ l0_1 _ _ l0_0 _ _ l0_1 true _ (Kd.S_reads' S2.out).2.2 (Kd.S_reads' S2.out).2.1 (Kd.R_reads' R2.out).2.2 (Kd.R_reads' R2.out).2.1 q8.out.2.2 q8.out.2.1 q9.out.2.2 q9.out.2.1 E5.out).mono ?_
    rintro e w9 ⟨rfl, b9⟩
    refine ⟨_, rfl, ?_⟩
    have RG := Aside0.mk (Kd.R_below RG1.out b9)
    have S1 := Aside0.mk (Kd.S_below S2.out b9)
    have R1 := Aside0.mk (Kd.R_below R2.out b9)
    have RW := Aside0.mk (Kd.R_below RW1.out b9)
    have K0 := Aside0.mk (blk_below K1.out b9)
    have KX := Aside0.mk (blk_below KX1.out b9)
    have B9 := Aside0.mk (below_step B8.out b9)
    have L10 := Aside0.mk (Below.size b9)
    clear b9 q8 q9 RG1 S2 R2 RW1 K1 KX1 B8
    refine hK.out _ _ ⟨(blk_cell KX.out 0).trans rfl, (blk_cell KX.out 1).trans rfl, (blk_cell K0.out 0).trans rfl, (blk_cell K0.out 1).trans rfl⟩ (fun hHeld => ?_)
    clear hK K
    refine norm_ (a' := ?_) ?_ ?_
    rotate_left
    · show Act.put _ (some 44) _ = _
      simp only [Act.put, List.setIfInBounds_toArray, List.set_cons_zero, List.set_cons_succ, i64_w, i32_w]
      rfl
    refine pure_ (i := 4) (N := some 45) (v := ?_) (a' := ?_) #[true, true, true, true, true] rfl rfl (by kernel_rfl) (fun _ _ _ h => h) (Or.inl ⟨by rfl, ?_⟩) ?_ ?_
    rotate_left
    · intro w'
      go_simp
      with_reducible rfl
    rotate_left
    · simp only [Act.put, List.setIfInBounds_toArray, List.set_cons_zero, List.set_cons_succ, i64_w, i32_w]
      rfl
    refine done_ (by kernel_rfl) ?_
    clear hHeld
    have c10 := (blk_cell KX.out 0).trans rfl
    have c11 := (blk_cell KX.out 1).trans rfl
    go_wp2_with fail
    refine (laws_markPolicy.calls k _ _ _ l0_0 l0_1 1 m1 m2 H' M' w _ B9.out S1.out R1.out E6.out E7.out).mono ?_
    rintro e w10 ⟨rfl, s10, r10, b10, k10⟩
    have RG1 := Aside0.mk (R_kept RG.out k10 (fun k_ h1_ h2_ => by have := L4.out; have := L5.out; have := L6.out; omega))
    have RW1 := Aside0.mk (R_kept RW.out k10 (fun k_ h1_ h2_ => by have := L3.out; have := L4.out; omega))
    have K1 := Aside0.mk (blk_kept K0.out k10 (fun h_ => by have := L0.out; have := L1.out; have := L2.out; have := L3.out; omega))
    have B10 := Aside0.mk b10
    have L11 := Aside0.mk k10.1
    clear s10 r10 b10 k10 RG RW K0 B9 KX S1 R1 c10 c11
    have d2 : decide (m2 < 0) = false := decide_eq_false (by have := E8.out; omega)
    go_wp2_with fail
    refine (laws_eqInt64S.calls k _ _ R _ _ R true _ (Kd.R_reads' RG1.out).2.2 (Kd.R_reads' RG1.out).2.1 (Kd.R_reads' RW1.out).2.2 (Kd.R_reads' RW1.out).2.1 E4.out).mono ?_
    rintro e w11 ⟨rfl, hd⟩
    have b11 := Drawn0.below hd
    have RG := Aside0.mk (Kd.R_below RG1.out b11)
    have RW := Aside0.mk (Kd.R_below RW1.out b11)
    have K0 := Aside0.mk (blk_below K1.out b11)
    have B11 := Aside0.mk (below_step B10.out b11)
    have L12 := Aside0.mk (Below.size b11)
    clear hd b11 RG1 RW1 K1 B10 d2
    go_wp2_with fail
    refine (laws_markInt64S.calls k _ _ R 1 m3 R' w _ B11.out RG.out E9.out).mono ?_
    rintro e w12 ⟨rfl, r12, b12, k12⟩
    have RG1 := Aside0.mk r12
    have RW1 := Aside0.mk (R_kept RW.out k12 (fun k_ h1_ h2_ => by have := L3.out; have := L4.out; have := L5.out; omega))
    have K1 := Aside0.mk (blk_kept K0.out k12 (fun h_ => by have := L0.out; have := L1.out; have := L2.out; have := L3.out; have := L4.out; have := L5.out; omega))
    have B12 := Aside0.mk b12
    have L13 := Aside0.mk k12.1
    clear r12 b12 k12 RG RW K0 B11
    have lG := (Kd.R_reads' RG1.out).1
    have hc := laws_heldInt64S.calls k _ _ R' 1 m3 _ (Kd.R_reads' RG1.out).2.2 (by rw [← lG]; exact (Kd.R_reads' RG1.out).2.1) E11.out
    rw [← lG] at hc
    clear lG
    have d3 : decide (m3 < 0) = false := decide_eq_false (by have := E10.out; omega)
    go_wp2_with fail
    refine hc.mono ?_
    clear hc
    rintro e w13 ⟨rfl, hd⟩
    have b13 := Drawn0.below hd
    have RG := Aside0.mk (Kd.R_below RG1.out b13)
    have RW := Aside0.mk (Kd.R_below RW1.out b13)
    have K0 := Aside0.mk (blk_below K1.out b13)
    have B13 := Aside0.mk (below_step B12.out b13)
    clear hd b13 RG1 RW1 K1 B12
    have c00 := (blk_cell K0.out 0).trans rfl
    have c01 := (blk_cell K0.out 1).trans rfl
    go_wp2_with fail
    refine (laws_toPolicy.calls k _ _ l0_0 _ _ l0_1 l0_0 l0_1 _ (Kd.C_below HR0.out B13.out) HC0.out (Kd.C_below HR1.out B13.out) HC1.out E1.out).mono ?_
    rintro e w14 ⟨v14, v15, rfl, s14, r14, b14⟩
    obtain ⟨A14, c14, rfl⟩ := Kd.S_slice s14
    obtain ⟨A15, c15, rfl⟩ := Kd.R_slice r14
    have q14 := Aside0.mk (Kd.S_reads' s14)
    have q15 := Aside0.mk (Kd.R_reads' r14)
    have RG1 := Aside0.mk (Kd.R_below RG.out b14)
    have RW1 := Aside0.mk (Kd.R_below RW.out b14)
    have B14 := Aside0.mk (below_step B13.out b14)
    clear s14 r14 b14 RG RW K0 B13 c00 c01
    go_wp2_with fail
    refine (impl_EmptyContents.calls _ _ l0_0 _ _ l0_1 R b _ q14.out.2.2 q14.out.2.1 q15.out.2.2 q15.out.2.1 E3.out).mono ?_
    rintro e w15 ⟨v16, rfl, r15, b15⟩
    obtain ⟨A16, c16, rfl⟩ := Kd.R_slice r15
    have q16 := Aside0.mk (Kd.R_reads' r15)
    have RG := Aside0.mk (Kd.R_below RG1.out b15)
    have RW := Aside0.mk (Kd.R_below RW1.out b15)
    have B15 := Aside0.mk (below_step B14.out b15)
    clear r15 b15 RG1 RW1 B14 q14 q15
    go_wp2_with fail
    refine (laws_eqInt64S.calls k _ _ R _ _ R true _ q16.out.2.2 q16.out.2.1 (Kd.R_reads' RW.out).2.2 (Kd.R_reads' RW.out).2.1 E4.out).mono ?_
    rintro e w16 ⟨rfl, hd⟩
    have b16 := Drawn0.below hd
    have RG1 := Aside0.mk (Kd.R_below RG.out b16)
    have B16 := Aside0.mk (below_step B15.out b16)
    clear hd b16 RG RW B15 q16
    have lG := (Kd.R_reads' RG1.out).1
    have hc := laws_heldInt64S.calls k _ _ R' 1 m3 _ (Kd.R_reads' RG1.out).2.2 (by rw [← lG]; exact (Kd.R_reads' RG1.out).2.1) E11.out
    rw [← lG] at hc
    clear lG
    go_wp2_with fail
    refine hc.mono ?_
    clear hc
    rintro e w17 ⟨rfl, hd⟩
    have B17 := Aside0.mk (below_step B16.out (Drawn0.below hd))
    clear hd RG1 B16
    go_wp2
    go_ret
    exact ⟨rfl, B17.out⟩


end Go.Proofs.Yteoacngaicchiaa.PFnExactEmptyContents
