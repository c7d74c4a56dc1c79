-- WRITTEN BY wip/xprint.py out of the translation, with contracts of mine put in: Lean checks it.
import Derived.Test.YtbdedpodbnhkfaaPFnExactRunsOfx0
import Derived.Test.YtbdedpodbnhkfaaPFnExactRunsOfx1
namespace Go.Proofs.Ytbdedpodbnhkfaa.PFnExactRunsOf
open Go.RowKit Go.Proofs.YtbdedpodbnhkfaaW.PrintWords Go.Proofs.YtbdedpodbnhkfaaW.PrintLast Go.Proofs.YtbdedpodbnhkfaaW.PrintMore
attribute [local go_sem] max2_int min2_int max_two min_two max_three min_three max_four min_four   -- for this text's walks alone
set_option linter.unusedVariables false
set_option linter.unusedSimpArgs false

/-! ### spec_l01Runs: function 73 -/
def spec_l01Runs.l0 : Nat → List Int → List (List Int) → Int → Option ((List (List Int)))
  | 0, _, _, _ => none
  | k + 1, x0, x3, x4 => if x4 < (x0.length : Int) then (if x4 = 0 then (if 0 ≤ x4 then (if x3.length < 5864062014805 then ((some (x3 ++ [(([rd x0 x4, 0] : List Int))] : List (List Int))).bind fun y118 => (if 0 ≤ (wrap64 ((y118.length : Int) - 1)) then (if (wrap64 ((y118.length : Int) - 1)) < (y118.length : Int) then (if 1 < ((rd_L1 y118 (wrap64 ((y118.length : Int) - 1))).length : Int) then (spec_l01Runs.l0 k x0 (y118.set ((wrap64 ((y118.length : Int) - 1)) : Int).toNat ((rd_L1 y118 (wrap64 ((y118.length : Int) - 1))).set (1 : Int).toNat (wrap64 ((rd (rd_L1 y118 (wrap64 ((y118.length : Int) - 1))) 1) + 1)))) (wrap64 (x4 + 1))) else (none)) else (none)) else (none))) else (none)) else (none)) else (if 0 ≤ x4 then (if 0 ≤ (wrap64 (x4 - 1)) then (if (wrap64 (x4 - 1)) < (x0.length : Int) then (if (rd x0 x4) = (rd x0 (wrap64 (x4 - 1))) then (if 0 ≤ (wrap64 ((x3.length : Int) - 1)) then (if (wrap64 ((x3.length : Int) - 1)) < (x3.length : Int) then (if 1 < ((rd_L1 x3 (wrap64 ((x3.length : Int) - 1))).length : Int) then (spec_l01Runs.l0 k x0 (x3.set ((wrap64 ((x3.length : Int) - 1)) : Int).toNat ((rd_L1 x3 (wrap64 ((x3.length : Int) - 1))).set (1 : Int).toNat (wrap64 ((rd (rd_L1 x3 (wrap64 ((x3.length : Int) - 1))) 1) + 1)))) (wrap64 (x4 + 1))) else (none)) else (none)) else (none)) else (if x3.length < 5864062014805 then ((some (x3 ++ [(([rd x0 x4, 0] : List Int))] : List (List Int))).bind fun y137 => (if 0 ≤ (wrap64 ((y137.length : Int) - 1)) then (if (wrap64 ((y137.length : Int) - 1)) < (y137.length : Int) then (if 1 < ((rd_L1 y137 (wrap64 ((y137.length : Int) - 1))).length : Int) then (spec_l01Runs.l0 k x0 (y137.set ((wrap64 ((y137.length : Int) - 1)) : Int).toNat ((rd_L1 y137 (wrap64 ((y137.length : Int) - 1))).set (1 : Int).toNat (wrap64 ((rd (rd_L1 y137 (wrap64 ((y137.length : Int) - 1))) 1) + 1)))) (wrap64 (x4 + 1))) else (none)) else (none)) else (none))) else (none))) else (none)) else (none)) else (none))) else (some x3)
def spec_l01Runs.f (k : Nat) (l0 : List Int) : Option ((List (List Int))) := spec_l01Runs.l0 k l0 (([] : List (List Int))) 0
theorem spec_l01Runs.mono_l : ∀ k, (∀ y0 y1 y2, LeO (spec_l01Runs.l0 k y0 y1 y2) (spec_l01Runs.l0 (k + 1) y0 y1 y2))
  | 0 => fun _ _ _ r h => by simp [spec_l01Runs.l0] at h
  | k + 1 => by
    have ih0 := spec_l01Runs.mono_l k
    · intro y0 y1 y2
      unfold spec_l01Runs.l0
      repeat' first
      | (with_reducible exact ih0 _ _ _)
      | (with_reducible exact LeO.refl _)
      | (with_reducible exact LeO.none _)
      | (with_reducible refine LeO.ite ?_ ?_)
      | (with_reducible refine LeO.bind ?_ (fun _ => ?_))
      | exact ih0 _ _ _
      | exact LeO.none _
      | refine LeO.ite ?_ ?_
      | refine LeO.bind ?_ (fun _ => ?_)
theorem spec_l01Runs.mono : ∀ a0 k, LeO (spec_l01Runs.f k a0) (spec_l01Runs.f (k + 1) a0) := by
  intro a0 k
  have ih0 := spec_l01Runs.mono_l k
  unfold spec_l01Runs.f
  repeat' first
      | (with_reducible exact ih0 _ _ _)
      | (with_reducible exact LeO.refl _)
      | (with_reducible exact LeO.none _)
      | (with_reducible refine LeO.ite ?_ ?_)
      | (with_reducible refine LeO.bind ?_ (fun _ => ?_))
      | exact ih0 _ _ _
      | exact LeO.none _
      | refine LeO.ite ?_ ?_
      | refine LeO.bind ?_ (fun _ => ?_)
set_option maxHeartbeats 8000000 in
set_option maxRecDepth 100000 in
theorem spec_l01Runs.calls (k : Nat) (A0 : Option Addr) (c0 : Nat) (l0 : List Int) (r : List (List Int)) (w : World) (hr0 : Kd.C (Kd.int .i64) w A0 l0.length l0) (hc0 : l0.length ≤ c0) (h : spec_l01Runs.f k l0 = some r) :
    Calls Try.prog 73 #[.slice A0 l0.length c0] w fun e w' => ∃ v0_ : Value, e = .returned (v0_) ∧ Kd.S (Kd.slice 2 (Kd.int .i64)) 24 w' w.heap.size (fun _ => True) v0_ r ∧ Below w.heap.size w w' := by
  have HR0 := Aside0.mk hr0
  have HC0 := Aside0.mk hc0
  clear hr0 hc0
  have HB := Aside0.mk (Below.refl w.heap.size w)
  have H : (spec_l01Runs.l0 k l0 (([] : List (List Int))) 0) = some r := h
  clear h
  obtain ⟨y111, hy111⟩ : ∃ y_ : List (List Int), y_ = (([] : List (List Int))) := ⟨_, rfl⟩
  replace H : (spec_l01Runs.l0 k l0 y111 0) = some r := by first | (rw [hy111]; with_reducible exact H) | (have H2_ := (Option.bind_some _ _).symm.trans H; rw [hy111]; with_reducible exact H2_) | (have H2_ := (Option.bind_some _ _).symm.trans H; with_reducible exact H2_) | with_reducible exact H | (rw [hy111]; exact H) | exact H
  have Ny111 := Aside0.mk hy111
  clear hy111
  have H' := Aside0.mk H
  clear H
  go_enter Try.func73, Try.ntmps73
  go_wp2_with (first | ((with_reducible refine gate_dst (N := 5) rfl ?_); refine Kd.S_lit (Kd.slice 2 (Kd.int .i64)) _ 24 ?hg (N := 5) ?hd (xs := ([] : List (List Int))) (inner := []) (ok := fun _ => True) (okp := fun _ => True) ?hr ?hp (fun _ hk => hk) trivial (Below.refl _ _) (Nat.le_refl _) (by simp) ?_; (case hd => rfl); (case hg => rfl); (case hr => first | (go_simp; done) | (go_simp; rfl)); (case hp => exact (Reps.none _ _)); intro v112 w2 ho3 hb hg_ hnew_; clear hg_ hnew_; (first | rw [← Ny111.out] at ho3 | (simp only [Int.reduceToNat] at ho3; rw [← Ny111.out] at ho3)); have n0_ := Aside0.mk (Kd.S_lower ho3 (below_size (by repeat (first | (with_reducible first | exact HB.out | apply below_alloc | apply pw_below_drewN | apply below_drew1) | exact HB.out)))); have n1_ := Aside0.mk (below_step (by repeat (first | (with_reducible first | exact HB.out | apply below_alloc | apply pw_below_drewN | apply below_drew1) | exact HB.out)) hb); clear HB; have HO113 := n0_; have HB := n1_; clear n0_ n1_; clear hb ho3))
  repeat (go_quiet (first | ((with_reducible refine gate_dst (N := 5) rfl ?_); refine Kd.S_lit (Kd.slice 2 (Kd.int .i64)) _ 24 ?hg (N := 5) ?hd (xs := ([] : List (List Int))) (inner := []) (ok := fun _ => True) (okp := fun _ => True) ?hr ?hp (fun _ hk => hk) trivial (Below.refl _ _) (Nat.le_refl _) (by simp) ?_; (case hd => rfl); (case hg => rfl); (case hr => first | (go_simp; done) | (go_simp; rfl)); (case hp => exact (Reps.none _ _)); intro v112 w2 ho3 hb hg_ hnew_; clear hg_ hnew_; (first | rw [← Ny111.out] at ho3 | (simp only [Int.reduceToNat] at ho3; rw [← Ny111.out] at ho3)); have n0_ := Aside0.mk (Kd.S_lower ho3 (below_size (by repeat (first | (with_reducible first | exact HB.out | apply below_alloc | apply pw_below_drewN | apply below_drew1) | exact HB.out)))); have n1_ := Aside0.mk (below_step (by repeat (first | (with_reducible first | exact HB.out | apply below_alloc | apply pw_below_drewN | apply below_drew1) | exact HB.out)) hb); clear HB; have HO113 := n0_; have HB := n1_; clear n0_ n1_; clear hb ho3)); try go_wp2_with (first | ((with_reducible refine gate_dst (N := 5) rfl ?_); refine Kd.S_lit (Kd.slice 2 (Kd.int .i64)) _ 24 ?hg (N := 5) ?hd (xs := ([] : List (List Int))) (inner := []) (ok := fun _ => True) (okp := fun _ => True) ?hr ?hp (fun _ hk => hk) trivial (Below.refl _ _) (Nat.le_refl _) (by simp) ?_; (case hd => rfl); (case hg => rfl); (case hr => first | (go_simp; done) | (go_simp; rfl)); (case hp => exact (Reps.none _ _)); intro v112 w2 ho3 hb hg_ hnew_; clear hg_ hnew_; (first | rw [← Ny111.out] at ho3 | (simp only [Int.reduceToNat] at ho3; rw [← Ny111.out] at ho3)); have n0_ := Aside0.mk (Kd.S_lower ho3 (below_size (by repeat (first | (with_reducible first | exact HB.out | apply below_alloc | apply pw_below_drewN | apply below_drew1) | exact HB.out)))); have n1_ := Aside0.mk (below_step (by repeat (first | (with_reducible first | exact HB.out | apply below_alloc | apply pw_below_drewN | apply below_drew1) | exact HB.out)) hb); clear HB; have HO113 := n0_; have HB := n1_; clear n0_ n1_; clear hb ho3)))
  go_loopg [3, 4] k (fun kq v3 v4 w' => ∃ (x3_1 : List (List Int)) (x4_1 : Int), v4 = .int .i64 x4_1 ∧ Aside0 (spec_l01Runs.l0 kq l0 x3_1 x4_1 = some r) ∧ Aside0 (kq ≤ k) ∧ Aside0 (Kd.S (Kd.slice 2 (Kd.int .i64)) 24 w' w.heap.size (fun _ => True) v3 x3_1) ∧ Aside0 (Below w.heap.size w w'))
  case atStart => exact ⟨(y111), (0), (by first | rfl | (simp; done) | (simp [*]; done)), H', ⟨Nat.le_refl _⟩, ⟨by (with_reducible repeat (first | apply Kd.S_alloc | apply Kd.S_drewN | apply Kd.S_drew)); exact HO113.out⟩, ⟨by repeat (first | (with_reducible first | exact HB.out | apply below_alloc | apply pw_below_drewN | apply below_drew1) | exact HB.out)⟩⟩
  case round =>
    clear H'
    try clear p2
    obtain ⟨x3_1, x4_1, rfl, HA, HK1, HO_3, HB⟩ := hrel
    cases gk with
    | zero => exact absurd HA.out (by simp [spec_l01Runs.l0])
    | succ k1 =>
      have H := HA.out
      clear HA
      simp only [spec_l01Runs.l0] at H
      by_cases c4 : x4_1 < (l0.length : Int)
      · rw [if_pos c4] at H
        have c4b0 : decide (x4_1 < (l0.length : Int)) = true := decide_eq_true c4
        clear c4
        by_cases c5 : x4_1 = 0
        · rw [if_pos c5] at H
          have c5b0 : (x4_1 == 0) = true := beq_iff_eq.mpr c5
          have c5b1 : (x4_1 != 0) = false := bne_eq_false_iff_eq.mpr c5
          clear c5
          by_cases c6 : 0 ≤ x4_1
          · rw [if_pos c6] at H
            have c6b0 : decide (0 ≤ x4_1) = true := decide_eq_true c6
            clear c6
            obtain ⟨y115, hy115⟩ : ∃ y_ : List Int, y_ = (([rd l0 x4_1, 0] : List Int)) := ⟨_, rfl⟩
            replace H : (if x3_1.length < 5864062014805 then ((some (x3_1 ++ [y115] : List (List Int))).bind fun y118 => (if 0 ≤ (wrap64 ((y118.length : Int) - 1)) then (if (wrap64 ((y118.length : Int) - 1)) < (y118.length : Int) then (if 1 < ((rd_L1 y118 (wrap64 ((y118.length : Int) - 1))).length : Int) then (spec_l01Runs.l0 k1 l0 (y118.set ((wrap64 ((y118.length : Int) - 1)) : Int).toNat ((rd_L1 y118 (wrap64 ((y118.length : Int) - 1))).set (1 : Int).toNat (wrap64 ((rd (rd_L1 y118 (wrap64 ((y118.length : Int) - 1))) 1) + 1)))) (wrap64 (x4_1 + 1))) else (none)) else (none)) else (none))) else (none)) = some r := by first | (rw [hy115]; with_reducible exact H) | (have H2_ := (Option.bind_some _ _).symm.trans H; rw [hy115]; with_reducible exact H2_) | (have H2_ := (Option.bind_some _ _).symm.trans H; with_reducible exact H2_) | with_reducible exact H | (rw [hy115]; exact H) | exact H
            have Ny115 := Aside0.mk hy115
            clear hy115
            by_cases c7 : x3_1.length < 5864062014805
            · rw [if_pos c7] at H
              have LMc7 := Aside0.mk c7
              clear c7
              obtain ⟨y118, hy118⟩ : ∃ y_ : List (List Int), y_ = (x3_1 ++ [y115]) := ⟨_, rfl⟩
              replace H : (if 0 ≤ (wrap64 ((y118.length : Int) - 1)) then (if (wrap64 ((y118.length : Int) - 1)) < (y118.length : Int) then (if 1 < ((rd_L1 y118 (wrap64 ((y118.length : Int) - 1))).length : Int) then (spec_l01Runs.l0 k1 l0 (y118.set ((wrap64 ((y118.length : Int) - 1)) : Int).toNat ((rd_L1 y118 (wrap64 ((y118.length : Int) - 1))).set (1 : Int).toNat (wrap64 ((rd (rd_L1 y118 (wrap64 ((y118.length : Int) - 1))) 1) + 1)))) (wrap64 (x4_1 + 1))) else (none)) else (none)) else (none)) = some r := by first | (rw [hy118]; with_reducible exact H) | (have H2_ := (Option.bind_some _ _).symm.trans H; rw [hy118]; with_reducible exact H2_) | (have H2_ := (Option.bind_some _ _).symm.trans H; with_reducible exact H2_) | with_reducible exact H | (rw [hy118]; exact H) | exact H
              have Ny118 := Aside0.mk hy118
              clear hy118
              obtain ⟨ji8, hji8⟩ : ∃ j_ : Int, (wrap64 ((y118.length : Int) - 1)) = j_ := ⟨_, rfl⟩
              replace H : (if 0 ≤ (ji8) then (if (ji8) < (y118.length : Int) then (if 1 < ((rd_L1 y118 (ji8)).length : Int) then (spec_l01Runs.l0 k1 l0 (y118.set ((ji8) : Int).toNat ((rd_L1 y118 (ji8)).set (1 : Int).toNat (wrap64 ((rd (rd_L1 y118 (ji8)) 1) + 1)))) (wrap64 (x4_1 + 1))) else (none)) else (none)) else (none)) = some r := by first | (rw [hji8] at H; exact H) | (simp only [hji8] at H ⊢; exact H)
              have hji8w : (IntKind.i64.wrap ((y118.length : Int) - 1)) = ji8 := (i64_w _).trans hji8
              by_cases c9 : 0 ≤ (ji8)
              · rw [if_pos c9] at H
                have c9b0 : decide (0 ≤ (ji8)) = true := decide_eq_true c9
                clear c9
                by_cases c10 : (ji8) < (y118.length : Int)
                · rw [if_pos c10] at H
                  have c10b0 : decide ((ji8) < (y118.length : Int)) = true := decide_eq_true c10
                  clear c10
                  by_cases c11 : 1 < ((rd_L1 y118 (ji8)).length : Int)
                  · rw [if_pos c11] at H
                    have c11b0 : decide (1 < ((rd_L1 y118 (ji8)).length : Int)) = true := decide_eq_true c11
                    have c11b1 : decide (1 < (rd_L1 y118 (ji8)).length) = true := decide_eq_true (by omega)
                    clear c11
                    obtain ⟨y123, hy123⟩ : ∃ y_ : List Int, y_ = ((rd_L1 y118 (ji8)).set (1 : Int).toNat (wrap64 ((rd (rd_L1 y118 (ji8)) 1) + 1))) := ⟨_, rfl⟩
                    replace H : (spec_l01Runs.l0 k1 l0 (y118.set ((ji8) : Int).toNat y123) (wrap64 (x4_1 + 1))) = some r := by first | (rw [hy123]; with_reducible exact H) | (have H2_ := (Option.bind_some _ _).symm.trans H; rw [hy123]; with_reducible exact H2_) | (have H2_ := (Option.bind_some _ _).symm.trans H; with_reducible exact H2_) | with_reducible exact H | (rw [hy123]; exact H) | exact H
                    have Ny123 := Aside0.mk hy123
                    clear hy123
                    obtain ⟨y125, hy125⟩ : ∃ y_ : List (List Int), y_ = (y118.set ((ji8) : Int).toNat y123) := ⟨_, rfl⟩
                    replace H : (spec_l01Runs.l0 k1 l0 y125 (wrap64 (x4_1 + 1))) = some r := by first | (rw [hy125]; with_reducible exact H) | (have H2_ := (Option.bind_some _ _).symm.trans H; rw [hy125]; with_reducible exact H2_) | (have H2_ := (Option.bind_some _ _).symm.trans H; with_reducible exact H2_) | with_reducible exact H | (rw [hy125]; exact H) | exact H
                    have Ny125 := Aside0.mk hy125
                    clear hy125
                    have H' := Aside0.mk H
                    clear H
                    have p114 : 0 ≤ (x4_1 : Int) := of_decide_eq_true (by first | (with_reducible assumption) | assumption)
                    have q114 : x4_1 < (l0.length : Int) := of_decide_eq_true (by first | (with_reducible assumption) | assumption)
                    obtain ⟨ad114, e114, hx114_0⟩ := Kd.at_int HR0.out x4_1 p114 q114
                    cases e114
                    replace hx114_0 := (HB.out.cell (World.block_lt_of_cell? w _ hx114_0)).trans hx114_0
                    replace p114 := eq_true p114
                    replace q114 := eq_true q114
                    go_wp2_with (first | ((with_reducible refine gate_dst (N := 31) rfl ?_); refine Kd.R_lit (Kd.int .i64) _ 2 ?hg (N := 31) ?hd (xs := ([rd l0 x4_1, 0] : List Int)) (inner := [.int .i64 (rd l0 x4_1), .int .i64 0]) (ok := fun _ => True) (okp := fun _ => True) ?hr ?hp (fun _ hk => hk) trivial (Below.refl _ _) (Nat.le_refl _) (by simp) ?_; (case hd => rfl); (case hg => rfl); (case hr => first | (go_simp; done) | (go_simp; rfl)); (case hp => exact (Reps.one (show Kd.M (Kd.int .i64) _ _ _ (rd l0 x4_1) [.int .i64 (rd l0 x4_1)] from rfl) (Reps.one (show Kd.M (Kd.int .i64) _ _ _ 0 [.int .i64 0] from rfl) (Reps.none _ _)))); intro v116 w13 ho14 hb hg_ hnew_; clear hg_ hnew_; (first | rw [← Ny115.out] at ho14 | (simp only [Int.reduceToNat] at ho14; rw [← Ny115.out] at ho14)); have n0_ := Aside0.mk (Kd.S_elder' (by (with_reducible repeat (first | apply Kd.S_alloc | apply Kd.S_drewN | apply Kd.S_drew)); exact HO_3.out) (Kd.R_base ho14) hb); have n1_ := Aside0.mk (Kd.R_lower ho14 (below_size (by repeat (first | (with_reducible first | exact HB.out | apply below_alloc | apply pw_below_drewN | apply below_drew1) | exact HB.out)))); have n2_ := Aside0.mk (below_step (by repeat (first | (with_reducible first | exact HB.out | apply below_alloc | apply pw_below_drewN | apply below_drew1) | exact HB.out)) hb); clear HO_3; clear HB; have HO_3 := n0_; have HO117 := n1_; have HB := n2_; clear n0_ n1_ n2_; clear hb ho14; obtain ⟨Ao16, co16, eo16⟩ := Kd.R_slice HO117.out; subst eo16) | ((with_reducible refine gate_builtin (b := .append) (xs := #[.tmp 26, .tmp 32]) rfl ?_); at_builtin; refine Kd.S_append (Kd.slice 2 (Kd.int .i64)) (w0 := w) w.heap.size rfl (.tmp 26) (.tmp 32) 41 24 (.slice none 0 0) 24 rfl Try.underlying41 info24 rfl (by decide) (by omega) u3 x3_1 y115 [.slice Ao16 y115.length co16] (fun _ => True) (fun k_ => some k_ = (.slice Ao16 y115.length co16 : Value).ownBlock) rfl rfl ?aP (fun k_ hk_ => ((Kd.R_mono (ok' := fun k_ => ((fun _ => True)) k_ ∧ some k_ ≠ (u3 : Value).ownBlock) (Kd.R_apart' (HO117.out) (Kd.S_typed HO_3.out) (by decide)) (fun k_ hk => ⟨trivial, hk.2⟩))).1 k_ hk_.symm) ?aF ?aO ?aB ?aS ?aL ?_; (case aP => exact Kd.M_row (Kd.R_mono (Kd.R_tight rfl (Kd.R_mono (ok' := fun k_ => ((fun _ => True)) k_ ∧ some k_ ≠ (u3 : Value).ownBlock) (Kd.R_apart' (HO117.out) (Kd.S_typed HO_3.out) (by decide)) (fun k_ hk => ⟨trivial, hk.2⟩))) (fun _ h_ => h_))); (case aB => exact (by repeat (first | (with_reducible first | exact HB.out | apply below_alloc | apply pw_below_drewN | apply below_drew1) | exact HB.out))); (case aF => exact (fun _ _ => trivial)); (case aO => exact (by (with_reducible repeat (first | apply Kd.S_alloc | apply Kd.S_drewN | apply Kd.S_drew)); exact Kd.S_mono HO_3.out (fun k_ hk => ⟨trivial, fun e_ => hk.2 e_⟩))); (case aS => exact (below_size (by repeat (first | (with_reducible first | exact HB.out | apply below_alloc | apply pw_below_drewN | apply below_drew1) | exact HB.out)))); (case aL => have := LMc7.out; omega); intro v119 w15 ho hb hg hat; rw [← Ny118.out] at ho; have n0_ := Aside0.mk (hb); have n1_ := Aside0.mk (ho); clear HB; clear HO_3; clear HO117; have HB := n0_; have HO120 := n1_; clear n0_ n1_; clear ho hb hg hat; obtain ⟨Ao17, co17, eo17⟩ := Kd.S_slice HO120.out; subst eo17; have p121 : 0 ≤ ((ji8) : Int) := of_decide_eq_true (by first | (with_reducible assumption) | assumption); have q121 : (ji8) < (y118.length : Int) := of_decide_eq_true (by first | (with_reducible assumption) | assumption); obtain ⟨ad121, A121_0, c121_0, e121, hx121_0, hl121_0, hi121_0⟩ := at_L1 (Kd.S_reads' HO120.out).2.2 (ji8) p121 q121; cases e121; obtain ⟨ce121, hce121, hMe121, hcc121⟩ := Kd.S_get HO120.out [] (ji8) p121 (by first | exact q121 | exact of_decide_eq_true (by first | (with_reducible assumption) | assumption) | (have e_ := (Kd.S_reads' HO120.out).1; omega)); obtain ⟨ve121_0, rfl, ge121_0⟩ := hMe121; have hv121_0 := hcc121 0 _ rfl; rw [Nat.add_zero, show ((Kd.slice 2 (Kd.int .i64))).sz = 1 from rfl, Nat.mul_one] at hv121_0; replace hv121_0 := Option.some.inj (hv121_0.symm.trans hx121_0); rw [hv121_0] at ge121_0; have HL121_0 := Aside0.mk (show Kd.R (Kd.int .i64) 2 _ _ _ _ (rd_L1 y118 (ji8)) from ge121_0); clear hv121_0 ge121_0; have HX121_0 := Aside0.mk hx121_0; clear hcc121 hce121; have HR121_0 := Aside0.mk hi121_0; have HC121_0 := Aside0.mk hl121_0; clear hi121_0 hl121_0; replace p121 := eq_true p121; replace q121 := eq_true q121; have p122 : 0 ≤ (1 : Int) := (by omega); have q122 : 1 < ((rd_L1 y118 (ji8)).length : Int) := of_decide_eq_true (by first | (with_reducible assumption) | assumption); obtain ⟨ad122, e122, hx122_0⟩ := Kd.at_int (by repeat (first | (with_reducible exact HR121_0.out) | (with_reducible refine Kd.C_alloc ?_ _) | (with_reducible refine Kd.C_drewN ?_ _) | (with_reducible refine Kd.C_drew ?_) | exact HR121_0.out)) 1 p122 q122; cases e122; (try simp only [show (1 : Int).toNat = 1 from rfl, Nat.reduceMul, Nat.reduceEqDiff, Go.Addr.add, ↓reduceIte] at hx122_0); have qi122 : (1 < (rd_L1 y118 (ji8)).length) = True := eq_true (by omega); (try rw [show ((1 : Int)).toNat = 1 from rfl] at hx122_0); replace p122 := eq_true p122; replace q122 := eq_true q122; have p12 : 0 ≤ (1 : Int) := (by omega); have q12 : (1 : Int) < (((rd_L1 y118 (ji8)).length : Int) : Int) := of_decide_eq_true (by first | (with_reducible assumption) | assumption); have qi12 : (1 < (rd_L1 y118 (ji8)).length) = True := eq_true (by omega); obtain ⟨go12, co12, eo12, gb12, gl12, cl12, HG12⟩ := Kd.R_form HL121_0.out (by omega); (first | cases eo12 | (injection eo12 with ea_ en_ ec_; (first | subst ea_ | (injection ea_ with ea_; subst ea_)); subst ec_; clear en_)); have GB12 := Aside0.mk gb12; have GG12 := Aside0.mk HG12; clear gb12 gl12 HG12; (first | simp only [add_plain] at hx122_0 | skip); obtain ⟨hx12_0, hf12_0⟩ := Kd.R_celln 0 HL121_0.out (1 : Int) p12 q12; (try rw [show ((1 : Int)).toNat = 1 from rfl] at hx12_0); (try simp only [Nat.reduceMul, Nat.zero_mul, Nat.zero_add, Nat.reduceAdd] at hx12_0); (try rw [show ((1 : Int)).toNat = 1 from rfl] at hf12_0); (try simp only [Nat.reduceMul, Nat.zero_mul, Nat.zero_add, Nat.reduceAdd] at hf12_0); replace p12 := eq_true p12; replace q12 := eq_true q12; have hq18 : ((ji8) : Int) < (y118.length : Int) := (by have h_ : ((ji8) : Int) < ((y118.length : Int) : Int) := of_decide_eq_true (by first | (with_reducible assumption) | assumption); first | exact h_ | (have e_ := (Kd.S_reads' HO120.out).1; omega) | simpa only [List.length_set, List.length_set] using h_); obtain ⟨oki18, ce18, hcl18, hM18, hcc18, hok18, hbk18⟩ := Kd.S_borrow HO120.out [] ((ji8) : Int) (of_decide_eq_true (by first | (with_reducible assumption) | assumption)) hq18; obtain ⟨ve18_0, rfl, ge18_0⟩ := hM18; have hv18 := hcc18 0 _ rfl; rw [Nat.add_zero, show ((Kd.slice 2 (Kd.int .i64))).sz = 1 from rfl, Nat.mul_one] at hv18; replace hv18 := Option.some.inj (hv18.symm.trans HX121_0.out); subst hv18; clear hcc18 hcl18; replace ge18_0 := (show Kd.R (Kd.int .i64) 2 _ _ _ _ (rd_L1 y118 (ji8)) from ge18_0); have HP18 := Kd.R_putg ge18_0 (1 : Int) (wrap64 ((rd (rd_L1 y118 (ji8)) 1) + 1))) | ((with_reducible refine gate_store (t := 2) (p := 43) rfl ?_); (try (rw [drewN_self w15]; generalize hq_ : World.drewN w15 _ = w15; have n0_ := Aside0.mk (Kd.S_at hq_ HO120.out); have n1_ := Aside0.mk (Kd.R_at hq_ HL145.out); have n2_ := Aside0.mk (below_at hq_ HB.out); clear hq_ HO120 HL145 HB; have HO120 := n0_; have HL145 := n1_; have HB := n2_; clear n0_ n1_ n2_; (try (have hq18 : ((ji8) : Int) < (y118.length : Int) := (by have h_ : ((ji8) : Int) < ((y118.length : Int) : Int) := of_decide_eq_true (by first | (with_reducible assumption) | assumption); first | exact h_ | (have e_ := (Kd.S_reads' HO120.out).1; omega) | simpa only [List.length_set, List.length_set] using h_))); (try (obtain ⟨oki18, ce18, hcl18, hM18, hcc18, hok18, hbk18⟩ := Kd.S_borrow HO120.out [] ((ji8) : Int) (of_decide_eq_true (by first | (with_reducible assumption) | assumption)) hq18)); (try (obtain ⟨ve18_0, rfl, ge18_0⟩ := hM18)); (try (have hv18 := hcc18 0 _ rfl)); (try (rw [Nat.add_zero, show ((Kd.slice 2 (Kd.int .i64))).sz = 1 from rfl, Nat.mul_one] at hv18)); (try (replace hv18 := Option.some.inj (hv18.symm.trans HX121_0.out))); (try (subst hv18)); (try (clear hcc18 hcl18)); (try (replace ge18_0 := (show Kd.R (Kd.int .i64) 2 _ _ _ _ (rd_L1 y118 (ji8)) from ge18_0))); (try (have HP18 := Kd.R_putg ge18_0 (1 : Int) (wrap64 ((rd (rd_L1 y118 (ji8)) 1) + 1)))))); refine store_event (t := 2) (p := 43) (v := ?vo_w19) (w1 := (w15.setCell ⟨go12, 1, none⟩ (.int .i64 (wrap64 ((rd (rd_L1 y118 (ji8)) 1) + 1))))) ?hg ?ho ?hn ?hr ?_; (case ho => rfl); (case hg => rfl); (case hn => rfl); (case hr => first | (go_simp; done) | (go_simp; rfl)); intro w19 hw; have hg : w15.grownBy w19 (some go12) := (by rw [hw]; exact HP18.2); have hz_ : Kd.R (Kd.int .i64) 2 w19 w.heap.size oki18 (.slice (some ⟨go12, 0, none⟩) (rd_L1 y118 (ji8)).length c121_0) y123 := (by rw [hw, Ny123.out]; exact HP18.1); have hp_ : Kd.S (Kd.slice 2 (Kd.int .i64)) 24 w19 w.heap.size (fun _ => True) (.slice (some ad121) y118.length co17) y125 := (by rw [Ny125.out]; exact hbk18 hg (fun k_ e_ => by injection e_ with e_; subst e_; exact ge18_0.1 _ rfl) (Kd.M_row hz_)); have hm_ := Kd.R_mono hz_ hok18; clear HP18 hbk18; have n0_ := Aside0.mk (hp_); have n1_ := Aside0.mk ((by rw [hw]; exact below_set (HB.out) GB12.out : Below w.heap.size w w19)); have n2_ := Aside0.mk (hm_); have n3_ := Aside0.mk ((Kd.R_reads' hm_).2.1); clear HO120; clear HB; clear HL121_0; have HO120 := n0_; have HB := n1_; have HL145 := n2_; have HC124 := n3_; clear n0_ n1_ n2_ n3_; clear hg hw hp_ hz_ hm_ hok18))
                    repeat (go_quiet (first | ((with_reducible refine gate_dst (N := 31) rfl ?_); refine Kd.R_lit (Kd.int .i64) _ 2 ?hg (N := 31) ?hd (xs := ([rd l0 x4_1, 0] : List Int)) (inner := [.int .i64 (rd l0 x4_1), .int .i64 0]) (ok := fun _ => True) (okp := fun _ => True) ?hr ?hp (fun _ hk => hk) trivial (Below.refl _ _) (Nat.le_refl _) (by simp) ?_; (case hd => rfl); (case hg => rfl); (case hr => first | (go_simp; done) | (go_simp; rfl)); (case hp => exact (Reps.one (show Kd.M (Kd.int .i64) _ _ _ (rd l0 x4_1) [.int .i64 (rd l0 x4_1)] from rfl) (Reps.one (show Kd.M (Kd.int .i64) _ _ _ 0 [.int .i64 0] from rfl) (Reps.none _ _)))); intro v116 w13 ho14 hb hg_ hnew_; clear hg_ hnew_; (first | rw [← Ny115.out] at ho14 | (simp only [Int.reduceToNat] at ho14; rw [← Ny115.out] at ho14)); have n0_ := Aside0.mk (Kd.S_elder' (by (with_reducible repeat (first | apply Kd.S_alloc | apply Kd.S_drewN | apply Kd.S_drew)); exact HO_3.out) (Kd.R_base ho14) hb); have n1_ := Aside0.mk (Kd.R_lower ho14 (below_size (by repeat (first | (with_reducible first | exact HB.out | apply below_alloc | apply pw_below_drewN | apply below_drew1) | exact HB.out)))); have n2_ := Aside0.mk (below_step (by repeat (first | (with_reducible first | exact HB.out | apply below_alloc | apply pw_below_drewN | apply below_drew1) | exact HB.out)) hb); clear HO_3; clear HB; have HO_3 := n0_; have HO117 := n1_; have HB := n2_; clear n0_ n1_ n2_; clear hb ho14; obtain ⟨Ao16, co16, eo16⟩ := Kd.R_slice HO117.out; subst eo16) | ((with_reducible refine gate_builtin (b := .append) (xs := #[.tmp 26, .tmp 32]) rfl ?_); at_builtin; refine Kd.S_append (Kd.slice 2 (Kd.int .i64)) (w0 := w) w.heap.size rfl (.tmp 26) (.tmp 32) 41 24 (.slice none 0 0) 24 rfl Try.underlying41 info24 rfl (by decide) (by omega) u3 x3_1 y115 [.slice Ao16 y115.length co16] (fun _ => True) (fun k_ => some k_ = (.slice Ao16 y115.length co16 : Value).ownBlock) rfl rfl ?aP (fun k_ hk_ => ((Kd.R_mono (ok' := fun k_ => ((fun _ => True)) k_ ∧ some k_ ≠ (u3 : Value).ownBlock) (Kd.R_apart' (HO117.out) (Kd.S_typed HO_3.out) (by decide)) (fun k_ hk => ⟨trivial, hk.2⟩))).1 k_ hk_.symm) ?aF ?aO ?aB ?aS ?aL ?_; (case aP => exact Kd.M_row (Kd.R_mono (Kd.R_tight rfl (Kd.R_mono (ok' := fun k_ => ((fun _ => True)) k_ ∧ some k_ ≠ (u3 : Value).ownBlock) (Kd.R_apart' (HO117.out) (Kd.S_typed HO_3.out) (by decide)) (fun k_ hk => ⟨trivial, hk.2⟩))) (fun _ h_ => h_))); (case aB => exact (by repeat (first | (with_reducible first | exact HB.out | apply below_alloc | apply pw_below_drewN | apply below_drew1) | exact HB.out))); (case aF => exact (fun _ _ => trivial)); (case aO => exact (by (with_reducible repeat (first | apply Kd.S_alloc | apply Kd.S_drewN | apply Kd.S_drew)); exact Kd.S_mono HO_3.out (fun k_ hk => ⟨trivial, fun e_ => hk.2 e_⟩))); (case aS => exact (below_size (by repeat (first | (with_reducible first | exact HB.out | apply below_alloc | apply pw_below_drewN | apply below_drew1) | exact HB.out)))); (case aL => have := LMc7.out; omega); intro v119 w15 ho hb hg hat; rw [← Ny118.out] at ho; have n0_ := Aside0.mk (hb); have n1_ := Aside0.mk (ho); clear HB; clear HO_3; clear HO117; have HB := n0_; have HO120 := n1_; clear n0_ n1_; clear ho hb hg hat; obtain ⟨Ao17, co17, eo17⟩ := Kd.S_slice HO120.out; subst eo17; have p121 : 0 ≤ ((ji8) : Int) := of_decide_eq_true (by first | (with_reducible assumption) | assumption); have q121 : (ji8) < (y118.length : Int) := of_decide_eq_true (by first | (with_reducible assumption) | assumption); obtain ⟨ad121, A121_0, c121_0, e121, hx121_0, hl121_0, hi121_0⟩ := at_L1 (Kd.S_reads' HO120.out).2.2 (ji8) p121 q121; cases e121; obtain ⟨ce121, hce121, hMe121, hcc121⟩ := Kd.S_get HO120.out [] (ji8) p121 (by first | exact q121 | exact of_decide_eq_true (by first | (with_reducible assumption) | assumption) | (have e_ := (Kd.S_reads' HO120.out).1; omega)); obtain ⟨ve121_0, rfl, ge121_0⟩ := hMe121; have hv121_0 := hcc121 0 _ rfl; rw [Nat.add_zero, show ((Kd.slice 2 (Kd.int .i64))).sz = 1 from rfl, Nat.mul_one] at hv121_0; replace hv121_0 := Option.some.inj (hv121_0.symm.trans hx121_0); rw [hv121_0] at ge121_0; have HL121_0 := Aside0.mk (show Kd.R (Kd.int .i64) 2 _ _ _ _ (rd_L1 y118 (ji8)) from ge121_0); clear hv121_0 ge121_0; have HX121_0 := Aside0.mk hx121_0; clear hcc121 hce121; have HR121_0 := Aside0.mk hi121_0; have HC121_0 := Aside0.mk hl121_0; clear hi121_0 hl121_0; replace p121 := eq_true p121; replace q121 := eq_true q121; have p122 : 0 ≤ (1 : Int) := (by omega); have q122 : 1 < ((rd_L1 y118 (ji8)).length : Int) := of_decide_eq_true (by first | (with_reducible assumption) | assumption); obtain ⟨ad122, e122, hx122_0⟩ := Kd.at_int (by repeat (first | (with_reducible exact HR121_0.out) | (with_reducible refine Kd.C_alloc ?_ _) | (with_reducible refine Kd.C_drewN ?_ _) | (with_reducible refine Kd.C_drew ?_) | exact HR121_0.out)) 1 p122 q122; cases e122; (try simp only [show (1 : Int).toNat = 1 from rfl, Nat.reduceMul, Nat.reduceEqDiff, Go.Addr.add, ↓reduceIte] at hx122_0); have qi122 : (1 < (rd_L1 y118 (ji8)).length) = True := eq_true (by omega); (try rw [show ((1 : Int)).toNat = 1 from rfl] at hx122_0); replace p122 := eq_true p122; replace q122 := eq_true q122; have p12 : 0 ≤ (1 : Int) := (by omega); have q12 : (1 : Int) < (((rd_L1 y118 (ji8)).length : Int) : Int) := of_decide_eq_true (by first | (with_reducible assumption) | assumption); have qi12 : (1 < (rd_L1 y118 (ji8)).length) = True := eq_true (by omega); obtain ⟨go12, co12, eo12, gb12, gl12, cl12, HG12⟩ := Kd.R_form HL121_0.out (by omega); (first | cases eo12 | (injection eo12 with ea_ en_ ec_; (first | subst ea_ | (injection ea_ with ea_; subst ea_)); subst ec_; clear en_)); have GB12 := Aside0.mk gb12; have GG12 := Aside0.mk HG12; clear gb12 gl12 HG12; (first | simp only [add_plain] at hx122_0 | skip); obtain ⟨hx12_0, hf12_0⟩ := Kd.R_celln 0 HL121_0.out (1 : Int) p12 q12; (try rw [show ((1 : Int)).toNat = 1 from rfl] at hx12_0); (try simp only [Nat.reduceMul, Nat.zero_mul, Nat.zero_add, Nat.reduceAdd] at hx12_0); (try rw [show ((1 : Int)).toNat = 1 from rfl] at hf12_0); (try simp only [Nat.reduceMul, Nat.zero_mul, Nat.zero_add, Nat.reduceAdd] at hf12_0); replace p12 := eq_true p12; replace q12 := eq_true q12; have hq18 : ((ji8) : Int) < (y118.length : Int) := (by have h_ : ((ji8) : Int) < ((y118.length : Int) : Int) := of_decide_eq_true (by first | (with_reducible assumption) | assumption); first | exact h_ | (have e_ := (Kd.S_reads' HO120.out).1; omega) | simpa only [List.length_set, List.length_set] using h_); obtain ⟨oki18, ce18, hcl18, hM18, hcc18, hok18, hbk18⟩ := Kd.S_borrow HO120.out [] ((ji8) : Int) (of_decide_eq_true (by first | (with_reducible assumption) | assumption)) hq18; obtain ⟨ve18_0, rfl, ge18_0⟩ := hM18; have hv18 := hcc18 0 _ rfl; rw [Nat.add_zero, show ((Kd.slice 2 (Kd.int .i64))).sz = 1 from rfl, Nat.mul_one] at hv18; replace hv18 := Option.some.inj (hv18.symm.trans HX121_0.out); subst hv18; clear hcc18 hcl18; replace ge18_0 := (show Kd.R (Kd.int .i64) 2 _ _ _ _ (rd_L1 y118 (ji8)) from ge18_0); have HP18 := Kd.R_putg ge18_0 (1 : Int) (wrap64 ((rd (rd_L1 y118 (ji8)) 1) + 1))) | ((with_reducible refine gate_store (t := 2) (p := 43) rfl ?_); (try (rw [drewN_self w15]; generalize hq_ : World.drewN w15 _ = w15; have n0_ := Aside0.mk (Kd.S_at hq_ HO120.out); have n1_ := Aside0.mk (Kd.R_at hq_ HL145.out); have n2_ := Aside0.mk (below_at hq_ HB.out); clear hq_ HO120 HL145 HB; have HO120 := n0_; have HL145 := n1_; have HB := n2_; clear n0_ n1_ n2_; (try (have hq18 : ((ji8) : Int) < (y118.length : Int) := (by have h_ : ((ji8) : Int) < ((y118.length : Int) : Int) := of_decide_eq_true (by first | (with_reducible assumption) | assumption); first | exact h_ | (have e_ := (Kd.S_reads' HO120.out).1; omega) | simpa only [List.length_set, List.length_set] using h_))); (try (obtain ⟨oki18, ce18, hcl18, hM18, hcc18, hok18, hbk18⟩ := Kd.S_borrow HO120.out [] ((ji8) : Int) (of_decide_eq_true (by first | (with_reducible assumption) | assumption)) hq18)); (try (obtain ⟨ve18_0, rfl, ge18_0⟩ := hM18)); (try (have hv18 := hcc18 0 _ rfl)); (try (rw [Nat.add_zero, show ((Kd.slice 2 (Kd.int .i64))).sz = 1 from rfl, Nat.mul_one] at hv18)); (try (replace hv18 := Option.some.inj (hv18.symm.trans HX121_0.out))); (try (subst hv18)); (try (clear hcc18 hcl18)); (try (replace ge18_0 := (show Kd.R (Kd.int .i64) 2 _ _ _ _ (rd_L1 y118 (ji8)) from ge18_0))); (try (have HP18 := Kd.R_putg ge18_0 (1 : Int) (wrap64 ((rd (rd_L1 y118 (ji8)) 1) + 1)))))); refine store_event (t := 2) (p := 43) (v := ?vo_w19) (w1 := (w15.setCell ⟨go12, 1, none⟩ (.int .i64 (wrap64 ((rd (rd_L1 y118 (ji8)) 1) + 1))))) ?hg ?ho ?hn ?hr ?_; (case ho => rfl); (case hg => rfl); (case hn => rfl); (case hr => first | (go_simp; done) | (go_simp; rfl)); intro w19 hw; have hg : w15.grownBy w19 (some go12) := (by rw [hw]; exact HP18.2); have hz_ : Kd.R (Kd.int .i64) 2 w19 w.heap.size oki18 (.slice (some ⟨go12, 0, none⟩) (rd_L1 y118 (ji8)).length c121_0) y123 := (by rw [hw, Ny123.out]; exact HP18.1); have hp_ : Kd.S (Kd.slice 2 (Kd.int .i64)) 24 w19 w.heap.size (fun _ => True) (.slice (some ad121) y118.length co17) y125 := (by rw [Ny125.out]; exact hbk18 hg (fun k_ e_ => by injection e_ with e_; subst e_; exact ge18_0.1 _ rfl) (Kd.M_row hz_)); have hm_ := Kd.R_mono hz_ hok18; clear HP18 hbk18; have n0_ := Aside0.mk (hp_); have n1_ := Aside0.mk ((by rw [hw]; exact below_set (HB.out) GB12.out : Below w.heap.size w w19)); have n2_ := Aside0.mk (hm_); have n3_ := Aside0.mk ((Kd.R_reads' hm_).2.1); clear HO120; clear HB; clear HL121_0; have HO120 := n0_; have HB := n1_; have HL145 := n2_; have HC124 := n3_; clear n0_ n1_ n2_ n3_; clear hg hw hp_ hz_ hm_ hok18)); try go_wp2_with (first | ((with_reducible refine gate_dst (N := 31) rfl ?_); refine Kd.R_lit (Kd.int .i64) _ 2 ?hg (N := 31) ?hd (xs := ([rd l0 x4_1, 0] : List Int)) (inner := [.int .i64 (rd l0 x4_1), .int .i64 0]) (ok := fun _ => True) (okp := fun _ => True) ?hr ?hp (fun _ hk => hk) trivial (Below.refl _ _) (Nat.le_refl _) (by simp) ?_; (case hd => rfl); (case hg => rfl); (case hr => first | (go_simp; done) | (go_simp; rfl)); (case hp => exact (Reps.one (show Kd.M (Kd.int .i64) _ _ _ (rd l0 x4_1) [.int .i64 (rd l0 x4_1)] from rfl) (Reps.one (show Kd.M (Kd.int .i64) _ _ _ 0 [.int .i64 0] from rfl) (Reps.none _ _)))); intro v116 w13 ho14 hb hg_ hnew_; clear hg_ hnew_; (first | rw [← Ny115.out] at ho14 | (simp only [Int.reduceToNat] at ho14; rw [← Ny115.out] at ho14)); have n0_ := Aside0.mk (Kd.S_elder' (by (with_reducible repeat (first | apply Kd.S_alloc | apply Kd.S_drewN | apply Kd.S_drew)); exact HO_3.out) (Kd.R_base ho14) hb); have n1_ := Aside0.mk (Kd.R_lower ho14 (below_size (by repeat (first | (with_reducible first | exact HB.out | apply below_alloc | apply pw_below_drewN | apply below_drew1) | exact HB.out)))); have n2_ := Aside0.mk (below_step (by repeat (first | (with_reducible first | exact HB.out | apply below_alloc | apply pw_below_drewN | apply below_drew1) | exact HB.out)) hb); clear HO_3; clear HB; have HO_3 := n0_; have HO117 := n1_; have HB := n2_; clear n0_ n1_ n2_; clear hb ho14; obtain ⟨Ao16, co16, eo16⟩ := Kd.R_slice HO117.out; subst eo16) | ((with_reducible refine gate_builtin (b := .append) (xs := #[.tmp 26, .tmp 32]) rfl ?_); at_builtin; refine Kd.S_append (Kd.slice 2 (Kd.int .i64)) (w0 := w) w.heap.size rfl (.tmp 26) (.tmp 32) 41 24 (.slice none 0 0) 24 rfl Try.underlying41 info24 rfl (by decide) (by omega) u3 x3_1 y115 [.slice Ao16 y115.length co16] (fun _ => True) (fun k_ => some k_ = (.slice Ao16 y115.length co16 : Value).ownBlock) rfl rfl ?aP (fun k_ hk_ => ((Kd.R_mono (ok' := fun k_ => ((fun _ => True)) k_ ∧ some k_ ≠ (u3 : Value).ownBlock) (Kd.R_apart' (HO117.out) (Kd.S_typed HO_3.out) (by decide)) (fun k_ hk => ⟨trivial, hk.2⟩))).1 k_ hk_.symm) ?aF ?aO ?aB ?aS ?aL ?_; (case aP => exact Kd.M_row (Kd.R_mono (Kd.R_tight rfl (Kd.R_mono (ok' := fun k_ => ((fun _ => True)) k_ ∧ some k_ ≠ (u3 : Value).ownBlock) (Kd.R_apart' (HO117.out) (Kd.S_typed HO_3.out) (by decide)) (fun k_ hk => ⟨trivial, hk.2⟩))) (fun _ h_ => h_))); (case aB => exact (by repeat (first | (with_reducible first | exact HB.out | apply below_alloc | apply pw_below_drewN | apply below_drew1) | exact HB.out))); (case aF => exact (fun _ _ => trivial)); (case aO => exact (by (with_reducible repeat (first | apply Kd.S_alloc | apply Kd.S_drewN | apply Kd.S_drew)); exact Kd.S_mono HO_3.out (fun k_ hk => ⟨trivial, fun e_ => hk.2 e_⟩))); (case aS => exact (below_size (by repeat (first | (with_reducible first | exact HB.out | apply below_alloc | apply pw_below_drewN | apply below_drew1) | exact HB.out)))); (case aL => have := LMc7.out; omega); intro v119 w15 ho hb hg hat; rw [← Ny118.out] at ho; have n0_ := Aside0.mk (hb); have n1_ := Aside0.mk (ho); clear HB; clear HO_3; clear HO117; have HB := n0_; have HO120 := n1_; clear n0_ n1_; clear ho hb hg hat; obtain ⟨Ao17, co17, eo17⟩ := Kd.S_slice HO120.out; subst eo17; have p121 : 0 ≤ ((ji8) : Int) := of_decide_eq_true (by first | (with_reducible assumption) | assumption); have q121 : (ji8) < (y118.length : Int) := of_decide_eq_true (by first | (with_reducible assumption) | assumption); obtain ⟨ad121, A121_0, c121_0, e121, hx121_0, hl121_0, hi121_0⟩ := at_L1 (Kd.S_reads' HO120.out).2.2 (ji8) p121 q121; cases e121; obtain ⟨ce121, hce121, hMe121, hcc121⟩ := Kd.S_get HO120.out [] (ji8) p121 (by first | exact q121 | exact of_decide_eq_true (by first | (with_reducible assumption) | assumption) | (have e_ := (Kd.S_reads' HO120.out).1; omega)); obtain ⟨ve121_0, rfl, ge121_0⟩ := hMe121; have hv121_0 := hcc121 0 _ rfl; rw [Nat.add_zero, show ((Kd.slice 2 (Kd.int .i64))).sz = 1 from rfl, Nat.mul_one] at hv121_0; replace hv121_0 := Option.some.inj (hv121_0.symm.trans hx121_0); rw [hv121_0] at ge121_0; have HL121_0 := Aside0.mk (show Kd.R (Kd.int .i64) 2 _ _ _ _ (rd_L1 y118 (ji8)) from ge121_0); clear hv121_0 ge121_0; have HX121_0 := Aside0.mk hx121_0; clear hcc121 hce121; have HR121_0 := Aside0.mk hi121_0; have HC121_0 := Aside0.mk hl121_0; clear hi121_0 hl121_0; replace p121 := eq_true p121; replace q121 := eq_true q121; have p122 : 0 ≤ (1 : Int) := (by omega); have q122 : 1 < ((rd_L1 y118 (ji8)).length : Int) := of_decide_eq_true (by first | (with_reducible assumption) | assumption); obtain ⟨ad122, e122, hx122_0⟩ := Kd.at_int (by repeat (first | (with_reducible exact HR121_0.out) | (with_reducible refine Kd.C_alloc ?_ _) | (with_reducible refine Kd.C_drewN ?_ _) | (with_reducible refine Kd.C_drew ?_) | exact HR121_0.out)) 1 p122 q122; cases e122; (try simp only [show (1 : Int).toNat = 1 from rfl, Nat.reduceMul, Nat.reduceEqDiff, Go.Addr.add, ↓reduceIte] at hx122_0); have qi122 : (1 < (rd_L1 y118 (ji8)).length) = True := eq_true (by omega); (try rw [show ((1 : Int)).toNat = 1 from rfl] at hx122_0); replace p122 := eq_true p122; replace q122 := eq_true q122; have p12 : 0 ≤ (1 : Int) := (by omega); have q12 : (1 : Int) < (((rd_L1 y118 (ji8)).length : Int) : Int) := of_decide_eq_true (by first | (with_reducible assumption) | assumption); have qi12 : (1 < (rd_L1 y118 (ji8)).length) = True := eq_true (by omega); obtain ⟨go12, co12, eo12, gb12, gl12, cl12, HG12⟩ := Kd.R_form HL121_0.out (by omega); (first | cases eo12 | (injection eo12 with ea_ en_ ec_; (first | subst ea_ | (injection ea_ with ea_; subst ea_)); subst ec_; clear en_)); have GB12 := Aside0.mk gb12; have GG12 := Aside0.mk HG12; clear gb12 gl12 HG12; (first | simp only [add_plain] at hx122_0 | skip); obtain ⟨hx12_0, hf12_0⟩ := Kd.R_celln 0 HL121_0.out (1 : Int) p12 q12; (try rw [show ((1 : Int)).toNat = 1 from rfl] at hx12_0); (try simp only [Nat.reduceMul, Nat.zero_mul, Nat.zero_add, Nat.reduceAdd] at hx12_0); (try rw [show ((1 : Int)).toNat = 1 from rfl] at hf12_0); (try simp only [Nat.reduceMul, Nat.zero_mul, Nat.zero_add, Nat.reduceAdd] at hf12_0); replace p12 := eq_true p12; replace q12 := eq_true q12; have hq18 : ((ji8) : Int) < (y118.length : Int) := (by have h_ : ((ji8) : Int) < ((y118.length : Int) : Int) := of_decide_eq_true (by first | (with_reducible assumption) | assumption); first | exact h_ | (have e_ := (Kd.S_reads' HO120.out).1; omega) | simpa only [List.length_set, List.length_set] using h_); obtain ⟨oki18, ce18, hcl18, hM18, hcc18, hok18, hbk18⟩ := Kd.S_borrow HO120.out [] ((ji8) : Int) (of_decide_eq_true (by first | (with_reducible assumption) | assumption)) hq18; obtain ⟨ve18_0, rfl, ge18_0⟩ := hM18; have hv18 := hcc18 0 _ rfl; rw [Nat.add_zero, show ((Kd.slice 2 (Kd.int .i64))).sz = 1 from rfl, Nat.mul_one] at hv18; replace hv18 := Option.some.inj (hv18.symm.trans HX121_0.out); subst hv18; clear hcc18 hcl18; replace ge18_0 := (show Kd.R (Kd.int .i64) 2 _ _ _ _ (rd_L1 y118 (ji8)) from ge18_0); have HP18 := Kd.R_putg ge18_0 (1 : Int) (wrap64 ((rd (rd_L1 y118 (ji8)) 1) + 1))) | ((with_reducible refine gate_store (t := 2) (p := 43) rfl ?_); (try (rw [drewN_self w15]; generalize hq_ : World.drewN w15 _ = w15; have n0_ := Aside0.mk (Kd.S_at hq_ HO120.out); have n1_ := Aside0.mk (Kd.R_at hq_ HL145.out); have n2_ := Aside0.mk (below_at hq_ HB.out); clear hq_ HO120 HL145 HB; have HO120 := n0_; have HL145 := n1_; have HB := n2_; clear n0_ n1_ n2_; (try (have hq18 : ((ji8) : Int) < (y118.length : Int) := (by have h_ : ((ji8) : Int) < ((y118.length : Int) : Int) := of_decide_eq_true (by first | (with_reducible assumption) | assumption); first | exact h_ | (have e_ := (Kd.S_reads' HO120.out).1; omega) | simpa only [List.length_set, List.length_set] using h_))); (try (obtain ⟨oki18, ce18, hcl18, hM18, hcc18, hok18, hbk18⟩ := Kd.S_borrow HO120.out [] ((ji8) : Int) (of_decide_eq_true (by first | (with_reducible assumption) | assumption)) hq18)); (try (obtain ⟨ve18_0, rfl, ge18_0⟩ := hM18)); (try (have hv18 := hcc18 0 _ rfl)); (try (rw [Nat.add_zero, show ((Kd.slice 2 (Kd.int .i64))).sz = 1 from rfl, Nat.mul_one] at hv18)); (try (replace hv18 := Option.some.inj (hv18.symm.trans HX121_0.out))); (try (subst hv18)); (try (clear hcc18 hcl18)); (try (replace ge18_0 := (show Kd.R (Kd.int .i64) 2 _ _ _ _ (rd_L1 y118 (ji8)) from ge18_0))); (try (have HP18 := Kd.R_putg ge18_0 (1 : Int) (wrap64 ((rd (rd_L1 y118 (ji8)) 1) + 1)))))); refine store_event (t := 2) (p := 43) (v := ?vo_w19) (w1 := (w15.setCell ⟨go12, 1, none⟩ (.int .i64 (wrap64 ((rd (rd_L1 y118 (ji8)) 1) + 1))))) ?hg ?ho ?hn ?hr ?_; (case ho => rfl); (case hg => rfl); (case hn => rfl); (case hr => first | (go_simp; done) | (go_simp; rfl)); intro w19 hw; have hg : w15.grownBy w19 (some go12) := (by rw [hw]; exact HP18.2); have hz_ : Kd.R (Kd.int .i64) 2 w19 w.heap.size oki18 (.slice (some ⟨go12, 0, none⟩) (rd_L1 y118 (ji8)).length c121_0) y123 := (by rw [hw, Ny123.out]; exact HP18.1); have hp_ : Kd.S (Kd.slice 2 (Kd.int .i64)) 24 w19 w.heap.size (fun _ => True) (.slice (some ad121) y118.length co17) y125 := (by rw [Ny125.out]; exact hbk18 hg (fun k_ e_ => by injection e_ with e_; subst e_; exact ge18_0.1 _ rfl) (Kd.M_row hz_)); have hm_ := Kd.R_mono hz_ hok18; clear HP18 hbk18; have n0_ := Aside0.mk (hp_); have n1_ := Aside0.mk ((by rw [hw]; exact below_set (HB.out) GB12.out : Below w.heap.size w w19)); have n2_ := Aside0.mk (hm_); have n3_ := Aside0.mk ((Kd.R_reads' hm_).2.1); clear HO120; clear HB; clear HL121_0; have HO120 := n0_; have HB := n1_; have HL145 := n2_; have HC124 := n3_; clear n0_ n1_ n2_ n3_; clear hg hw hp_ hz_ hm_ hok18)))
                    go_roundg k1
                    case measure => have := HK1.out; omega
                    case rel => exact ⟨(y125), (wrap64 (x4_1 + 1)), (by first | rfl | (simp; done) | (simp [*]; done)), H', ⟨by have := HK1.out; omega⟩, ⟨by (with_reducible repeat (first | apply Kd.S_alloc | apply Kd.S_drewN | apply Kd.S_drew)); exact HO120.out⟩, ⟨by repeat (first | (with_reducible first | exact HB.out | apply below_alloc | apply pw_below_drewN | apply below_drew1) | exact HB.out)⟩⟩
                  · rw [if_neg c11] at H
                    exact absurd H (by simp)
                · rw [if_neg c10] at H
                  exact absurd H (by simp)
              · rw [if_neg c9] at H
                exact absurd H (by simp)
            · rw [if_neg c7] at H
              exact absurd H (by simp)
          · rw [if_neg c6] at H
            exact absurd H (by simp)
        · rw [if_neg c5] at H
          have c5b0 : (x4_1 == 0) = false := beq_eq_false_iff_ne.mpr c5
          have c5b1 : (x4_1 != 0) = true := bne_iff_ne.mpr c5
          by_cases c20 : 0 ≤ x4_1
          · rw [if_pos c20] at H
            have c20b0 : decide (0 ≤ x4_1) = true := decide_eq_true c20
            clear c20
            obtain ⟨ji21, hji21⟩ : ∃ j_ : Int, (wrap64 (x4_1 - 1)) = j_ := ⟨_, rfl⟩
            replace H : (if 0 ≤ (ji21) then (if (ji21) < (l0.length : Int) then (if (rd l0 x4_1) = (rd l0 (ji21)) then (if 0 ≤ (wrap64 ((x3_1.length : Int) - 1)) then (if (wrap64 ((x3_1.length : Int) - 1)) < (x3_1.length : Int) then (if 1 < ((rd_L1 x3_1 (wrap64 ((x3_1.length : Int) - 1))).length : Int) then (spec_l01Runs.l0 k1 l0 (x3_1.set ((wrap64 ((x3_1.length : Int) - 1)) : Int).toNat ((rd_L1 x3_1 (wrap64 ((x3_1.length : Int) - 1))).set (1 : Int).toNat (wrap64 ((rd (rd_L1 x3_1 (wrap64 ((x3_1.length : Int) - 1))) 1) + 1)))) (wrap64 (x4_1 + 1))) else (none)) else (none)) else (none)) else (if x3_1.length < 5864062014805 then ((some (x3_1 ++ [(([rd l0 x4_1, 0] : List Int))] : List (List Int))).bind fun y137 => (if 0 ≤ (wrap64 ((y137.length : Int) - 1)) then (if (wrap64 ((y137.length : Int) - 1)) < (y137.length : Int) then (if 1 < ((rd_L1 y137 (wrap64 ((y137.length : Int) - 1))).length : Int) then (spec_l01Runs.l0 k1 l0 (y137.set ((wrap64 ((y137.length : Int) - 1)) : Int).toNat ((rd_L1 y137 (wrap64 ((y137.length : Int) - 1))).set (1 : Int).toNat (wrap64 ((rd (rd_L1 y137 (wrap64 ((y137.length : Int) - 1))) 1) + 1)))) (wrap64 (x4_1 + 1))) else (none)) else (none)) else (none))) else (none))) else (none)) else (none)) = some r := by first | (rw [hji21] at H; exact H) | (simp only [hji21] at H ⊢; exact H)
            have hji21w : (IntKind.i64.wrap (x4_1 - 1)) = ji21 := (i64_w _).trans hji21
            by_cases c22 : 0 ≤ (ji21)
            · rw [if_pos c22] at H
              have c22b0 : decide (0 ≤ (ji21)) = true := decide_eq_true c22
              clear c22
              by_cases c23 : (ji21) < (l0.length : Int)
              · rw [if_pos c23] at H
                have c23b0 : decide ((ji21) < (l0.length : Int)) = true := decide_eq_true c23
                clear c23
                by_cases c24 : (rd l0 x4_1) = (rd l0 (ji21))
                · rw [if_pos c24] at H
                  have c24b0 : ((rd l0 x4_1) == (rd l0 (ji21))) = true := beq_iff_eq.mpr c24
                  have c24b1 : ((rd l0 x4_1) != (rd l0 (ji21))) = false := bne_eq_false_iff_eq.mpr c24
                  clear c24
                  obtain ⟨ji25, hji25⟩ : ∃ j_ : Int, (wrap64 ((x3_1.length : Int) - 1)) = j_ := ⟨_, rfl⟩
                  replace H : (if 0 ≤ (ji25) then (if (ji25) < (x3_1.length : Int) then (if 1 < ((rd_L1 x3_1 (ji25)).length : Int) then (spec_l01Runs.l0 k1 l0 (x3_1.set ((ji25) : Int).toNat ((rd_L1 x3_1 (ji25)).set (1 : Int).toNat (wrap64 ((rd (rd_L1 x3_1 (ji25)) 1) + 1)))) (wrap64 (x4_1 + 1))) else (none)) else (none)) else (none)) = some r := by first | (rw [hji25] at H; exact H) | (simp only [hji25] at H ⊢; exact H)
                  have hji25w : (IntKind.i64.wrap ((x3_1.length : Int) - 1)) = ji25 := (i64_w _).trans hji25
                  by_cases c26 : 0 ≤ (ji25)
                  · rw [if_pos c26] at H
                    have c26b0 : decide (0 ≤ (ji25)) = true := decide_eq_true c26
                    clear c26
                    by_cases c27 : (ji25) < (x3_1.length : Int)
                    · rw [if_pos c27] at H
                      have c27b0 : decide ((ji25) < (x3_1.length : Int)) = true := decide_eq_true c27
                      clear c27
                      by_cases c28 : 1 < ((rd_L1 x3_1 (ji25)).length : Int)
                      · rw [if_pos c28] at H
                        have c28b0 : decide (1 < ((rd_L1 x3_1 (ji25)).length : Int)) = true := decide_eq_true c28
                        have c28b1 : decide (1 < (rd_L1 x3_1 (ji25)).length) = true := decide_eq_true (by omega)
                        clear c28
                        obtain ⟨y130, hy130⟩ : ∃ y_ : List Int, y_ = ((rd_L1 x3_1 (ji25)).set (1 : Int).toNat (wrap64 ((rd (rd_L1 x3_1 (ji25)) 1) + 1))) := ⟨_, rfl⟩
                        replace H : (spec_l01Runs.l0 k1 l0 (x3_1.set ((ji25) : Int).toNat y130) (wrap64 (x4_1 + 1))) = some r := by first | (rw [hy130]; with_reducible exact H) | (have H2_ := (Option.bind_some _ _).symm.trans H; rw [hy130]; with_reducible exact H2_) | (have H2_ := (Option.bind_some _ _).symm.trans H; with_reducible exact H2_) | with_reducible exact H | (rw [hy130]; exact H) | exact H
                        have Ny130 := Aside0.mk hy130
                        clear hy130
                        obtain ⟨y132, hy132⟩ : ∃ y_ : List (List Int), y_ = (x3_1.set ((ji25) : Int).toNat y130) := ⟨_, rfl⟩
                        replace H : (spec_l01Runs.l0 k1 l0 y132 (wrap64 (x4_1 + 1))) = some r := by first | (rw [hy132]; with_reducible exact H) | (have H2_ := (Option.bind_some _ _).symm.trans H; rw [hy132]; with_reducible exact H2_) | (have H2_ := (Option.bind_some _ _).symm.trans H; with_reducible exact H2_) | with_reducible exact H | (rw [hy132]; exact H) | exact H
                        have Ny132 := Aside0.mk hy132
                        clear hy132
                        have H' := Aside0.mk H
                        clear H
                        have p126 : 0 ≤ (x4_1 : Int) := of_decide_eq_true (by first | (with_reducible assumption) | assumption)
                        have q126 : x4_1 < (l0.length : Int) := of_decide_eq_true (by first | (with_reducible assumption) | assumption)
                        obtain ⟨ad126, e126, hx126_0⟩ := Kd.at_int HR0.out x4_1 p126 q126
                        cases e126
                        replace hx126_0 := (HB.out.cell (World.block_lt_of_cell? w _ hx126_0)).trans hx126_0
                        replace p126 := eq_true p126
                        replace q126 := eq_true q126
                        have p127 : 0 ≤ ((ji21) : Int) := of_decide_eq_true (by first | (with_reducible assumption) | assumption)
                        have q127 : (ji21) < (l0.length : Int) := of_decide_eq_true (by first | (with_reducible assumption) | assumption)
                        obtain ⟨ad127, e127, hx127_0⟩ := Kd.at_int HR0.out (ji21) p127 q127
                        obtain rfl : ad126 = ad127 := (by injection e127)
                        replace hx127_0 := (HB.out.cell (World.block_lt_of_cell? w _ hx127_0)).trans hx127_0
                        replace p127 := eq_true p127
                        replace q127 := eq_true q127
                        obtain ⟨Ao30, co30, eo30⟩ := Kd.S_slice HO_3.out
                        subst eo30
                        have p128 : 0 ≤ ((ji25) : Int) := of_decide_eq_true (by first | (with_reducible assumption) | assumption)
                        have q128 : (ji25) < (x3_1.length : Int) := of_decide_eq_true (by first | (with_reducible assumption) | assumption)
                        obtain ⟨ad128, A128_0, c128_0, e128, hx128_0, hl128_0, hi128_0⟩ := at_L1 (Kd.S_reads' HO_3.out).2.2 (ji25) p128 q128
                        cases e128
                        obtain ⟨ce128, hce128, hMe128, hcc128⟩ := Kd.S_get HO_3.out [] (ji25) p128 (by first | exact q128 | exact of_decide_eq_true (by first | (with_reducible assumption) | assumption) | (have e_ := (Kd.S_reads' HO_3.out).1; omega))
                        obtain ⟨ve128_0, rfl, ge128_0⟩ := hMe128
                        have hv128_0 := hcc128 0 _ rfl
                        rw [Nat.add_zero, show ((Kd.slice 2 (Kd.int .i64))).sz = 1 from rfl, Nat.mul_one] at hv128_0
                        replace hv128_0 := Option.some.inj (hv128_0.symm.trans hx128_0)
                        rw [hv128_0] at ge128_0
                        have HL128_0 := Aside0.mk (show Kd.R (Kd.int .i64) 2 _ _ _ _ (rd_L1 x3_1 (ji25)) from ge128_0)
                        clear hv128_0 ge128_0
                        have HX128_0 := Aside0.mk hx128_0
                        clear hcc128 hce128
                        have HR128_0 := Aside0.mk hi128_0
                        have HC128_0 := Aside0.mk hl128_0
                        clear hi128_0 hl128_0
                        replace p128 := eq_true p128
                        replace q128 := eq_true q128
                        have p129 : 0 ≤ (1 : Int) := (by omega)
                        have q129 : 1 < ((rd_L1 x3_1 (ji25)).length : Int) := of_decide_eq_true (by first | (with_reducible assumption) | assumption)
                        obtain ⟨ad129, e129, hx129_0⟩ := Kd.at_int (by repeat (first | (with_reducible exact HR128_0.out) | (with_reducible refine Kd.C_alloc ?_ _) | (with_reducible refine Kd.C_drewN ?_ _) | (with_reducible refine Kd.C_drew ?_) | exact HR128_0.out)) 1 p129 q129
                        cases e129
                        (try simp only [show (1 : Int).toNat = 1 from rfl, Nat.reduceMul, Nat.reduceEqDiff, Go.Addr.add, ↓reduceIte] at hx129_0)
                        have qi129 : (1 < (rd_L1 x3_1 (ji25)).length) = True := eq_true (by omega)
                        (try rw [show ((1 : Int)).toNat = 1 from rfl] at hx129_0)
                        replace p129 := eq_true p129
                        replace q129 := eq_true q129
                        have p29 : 0 ≤ (1 : Int) := (by omega)
                        have q29 : (1 : Int) < (((rd_L1 x3_1 (ji25)).length : Int) : Int) := of_decide_eq_true (by first | (with_reducible assumption) | assumption)
                        have qi29 : (1 < (rd_L1 x3_1 (ji25)).length) = True := eq_true (by omega)
                        obtain ⟨go29, co29, eo29, gb29, gl29, cl29, HG29⟩ := Kd.R_form HL128_0.out (by omega)
                        (first | cases eo29 | (injection eo29 with ea_ en_ ec_; (first | subst ea_ | (injection ea_ with ea_; subst ea_)); subst ec_; clear en_))
                        have GB29 := Aside0.mk gb29
                        have GG29 := Aside0.mk HG29
                        clear gb29 gl29 HG29
                        (first | simp only [add_plain] at hx129_0 | skip)
                        obtain ⟨hx29_0, hf29_0⟩ := Kd.R_celln 0 HL128_0.out (1 : Int) p29 q29
                        (try rw [show ((1 : Int)).toNat = 1 from rfl] at hx29_0)
                        (try simp only [Nat.reduceMul, Nat.zero_mul, Nat.zero_add, Nat.reduceAdd] at hx29_0)
                        (try rw [show ((1 : Int)).toNat = 1 from rfl] at hf29_0)
                        (try simp only [Nat.reduceMul, Nat.zero_mul, Nat.zero_add, Nat.reduceAdd] at hf29_0)
                        replace p29 := eq_true p29
                        replace q29 := eq_true q29
                        have hq31 : ((ji25) : Int) < (x3_1.length : Int) := (by have h_ : ((ji25) : Int) < ((x3_1.length : Int) : Int) := of_decide_eq_true (by first | (with_reducible assumption) | assumption); first | exact h_ | (have e_ := (Kd.S_reads' HO_3.out).1; omega) | simpa only [List.length_set, List.length_set] using h_)
                        obtain ⟨oki31, ce31, hcl31, hM31, hcc31, hok31, hbk31⟩ := Kd.S_borrow HO_3.out [] ((ji25) : Int) (of_decide_eq_true (by first | (with_reducible assumption) | assumption)) hq31
                        obtain ⟨ve31_0, rfl, ge31_0⟩ := hM31
                        have hv31 := hcc31 0 _ rfl
                        rw [Nat.add_zero, show ((Kd.slice 2 (Kd.int .i64))).sz = 1 from rfl, Nat.mul_one] at hv31
                        replace hv31 := Option.some.inj (hv31.symm.trans HX128_0.out)
                        subst hv31
                        clear hcc31 hcl31
                        replace ge31_0 := (show Kd.R (Kd.int .i64) 2 _ _ _ _ (rd_L1 x3_1 (ji25)) from ge31_0)
                        have HP31 := Kd.R_putg ge31_0 (1 : Int) (wrap64 ((rd (rd_L1 x3_1 (ji25)) 1) + 1))
                        go_wp2_with (first | ((with_reducible refine gate_store (t := 2) (p := 43) rfl ?_); (try (rw [drewN_self wr]; generalize hq_ : World.drewN wr _ = wr; have n0_ := Aside0.mk (Kd.S_at hq_ HO_3.out); have n1_ := Aside0.mk (Kd.R_at hq_ HL146.out); have n2_ := Aside0.mk (below_at hq_ HB.out); clear hq_ HO_3 HL146 HB; have HO_3 := n0_; have HL146 := n1_; have HB := n2_; clear n0_ n1_ n2_; (try (have hq31 : ((ji25) : Int) < (x3_1.length : Int) := (by have h_ : ((ji25) : Int) < ((x3_1.length : Int) : Int) := of_decide_eq_true (by first | (with_reducible assumption) | assumption); first | exact h_ | (have e_ := (Kd.S_reads' HO_3.out).1; omega) | simpa only [List.length_set, List.length_set] using h_))); (try (obtain ⟨oki31, ce31, hcl31, hM31, hcc31, hok31, hbk31⟩ := Kd.S_borrow HO_3.out [] ((ji25) : Int) (of_decide_eq_true (by first | (with_reducible assumption) | assumption)) hq31)); (try (obtain ⟨ve31_0, rfl, ge31_0⟩ := hM31)); (try (have hv31 := hcc31 0 _ rfl)); (try (rw [Nat.add_zero, show ((Kd.slice 2 (Kd.int .i64))).sz = 1 from rfl, Nat.mul_one] at hv31)); (try (replace hv31 := Option.some.inj (hv31.symm.trans HX128_0.out))); (try (subst hv31)); (try (clear hcc31 hcl31)); (try (replace ge31_0 := (show Kd.R (Kd.int .i64) 2 _ _ _ _ (rd_L1 x3_1 (ji25)) from ge31_0))); (try (have HP31 := Kd.R_putg ge31_0 (1 : Int) (wrap64 ((rd (rd_L1 x3_1 (ji25)) 1) + 1)))))); refine store_event (t := 2) (p := 43) (v := ?vo_w32) (w1 := (wr.setCell ⟨go29, 1, none⟩ (.int .i64 (wrap64 ((rd (rd_L1 x3_1 (ji25)) 1) + 1))))) ?hg ?ho ?hn ?hr ?_; (case ho => rfl); (case hg => rfl); (case hn => rfl); (case hr => first | (go_simp; done) | (go_simp; rfl)); intro w32 hw; have hg : wr.grownBy w32 (some go29) := (by rw [hw]; exact HP31.2); have hz_ : Kd.R (Kd.int .i64) 2 w32 w.heap.size oki31 (.slice (some ⟨go29, 0, none⟩) (rd_L1 x3_1 (ji25)).length c128_0) y130 := (by rw [hw, Ny130.out]; exact HP31.1); have hp_ : Kd.S (Kd.slice 2 (Kd.int .i64)) 24 w32 w.heap.size (fun _ => True) (.slice (some ad128) x3_1.length co30) y132 := (by rw [Ny132.out]; exact hbk31 hg (fun k_ e_ => by injection e_ with e_; subst e_; exact ge31_0.1 _ rfl) (Kd.M_row hz_)); have hm_ := Kd.R_mono hz_ hok31; clear HP31 hbk31; have n0_ := Aside0.mk (hp_); have n1_ := Aside0.mk ((by rw [hw]; exact below_set (HB.out) GB29.out : Below w.heap.size w w32)); have n2_ := Aside0.mk (hm_); have n3_ := Aside0.mk ((Kd.R_reads' hm_).2.1); clear HO_3; clear HB; clear HL128_0; have HO_3 := n0_; have HB := n1_; have HL146 := n2_; have HC131 := n3_; clear n0_ n1_ n2_ n3_; clear hg hw hp_ hz_ hm_ hok31))
                        repeat (go_quiet (first | ((with_reducible refine gate_store (t := 2) (p := 43) rfl ?_); (try (rw [drewN_self wr]; generalize hq_ : World.drewN wr _ = wr; have n0_ := Aside0.mk (Kd.S_at hq_ HO_3.out); have n1_ := Aside0.mk (Kd.R_at hq_ HL146.out); have n2_ := Aside0.mk (below_at hq_ HB.out); clear hq_ HO_3 HL146 HB; have HO_3 := n0_; have HL146 := n1_; have HB := n2_; clear n0_ n1_ n2_; (try (have hq31 : ((ji25) : Int) < (x3_1.length : Int) := (by have h_ : ((ji25) : Int) < ((x3_1.length : Int) : Int) := of_decide_eq_true (by first | (with_reducible assumption) | assumption); first | exact h_ | (have e_ := (Kd.S_reads' HO_3.out).1; omega) | simpa only [List.length_set, List.length_set] using h_))); (try (obtain ⟨oki31, ce31, hcl31, hM31, hcc31, hok31, hbk31⟩ := Kd.S_borrow HO_3.out [] ((ji25) : Int) (of_decide_eq_true (by first | (with_reducible assumption) | assumption)) hq31)); (try (obtain ⟨ve31_0, rfl, ge31_0⟩ := hM31)); (try (have hv31 := hcc31 0 _ rfl)); (try (rw [Nat.add_zero, show ((Kd.slice 2 (Kd.int .i64))).sz = 1 from rfl, Nat.mul_one] at hv31)); (try (replace hv31 := Option.some.inj (hv31.symm.trans HX128_0.out))); (try (subst hv31)); (try (clear hcc31 hcl31)); (try (replace ge31_0 := (show Kd.R (Kd.int .i64) 2 _ _ _ _ (rd_L1 x3_1 (ji25)) from ge31_0))); (try (have HP31 := Kd.R_putg ge31_0 (1 : Int) (wrap64 ((rd (rd_L1 x3_1 (ji25)) 1) + 1)))))); refine store_event (t := 2) (p := 43) (v := ?vo_w32) (w1 := (wr.setCell ⟨go29, 1, none⟩ (.int .i64 (wrap64 ((rd (rd_L1 x3_1 (ji25)) 1) + 1))))) ?hg ?ho ?hn ?hr ?_; (case ho => rfl); (case hg => rfl); (case hn => rfl); (case hr => first | (go_simp; done) | (go_simp; rfl)); intro w32 hw; have hg : wr.grownBy w32 (some go29) := (by rw [hw]; exact HP31.2); have hz_ : Kd.R (Kd.int .i64) 2 w32 w.heap.size oki31 (.slice (some ⟨go29, 0, none⟩) (rd_L1 x3_1 (ji25)).length c128_0) y130 := (by rw [hw, Ny130.out]; exact HP31.1); have hp_ : Kd.S (Kd.slice 2 (Kd.int .i64)) 24 w32 w.heap.size (fun _ => True) (.slice (some ad128) x3_1.length co30) y132 := (by rw [Ny132.out]; exact hbk31 hg (fun k_ e_ => by injection e_ with e_; subst e_; exact ge31_0.1 _ rfl) (Kd.M_row hz_)); have hm_ := Kd.R_mono hz_ hok31; clear HP31 hbk31; have n0_ := Aside0.mk (hp_); have n1_ := Aside0.mk ((by rw [hw]; exact below_set (HB.out) GB29.out : Below w.heap.size w w32)); have n2_ := Aside0.mk (hm_); have n3_ := Aside0.mk ((Kd.R_reads' hm_).2.1); clear HO_3; clear HB; clear HL128_0; have HO_3 := n0_; have HB := n1_; have HL146 := n2_; have HC131 := n3_; clear n0_ n1_ n2_ n3_; clear hg hw hp_ hz_ hm_ hok31)); try go_wp2_with (first | ((with_reducible refine gate_store (t := 2) (p := 43) rfl ?_); (try (rw [drewN_self wr]; generalize hq_ : World.drewN wr _ = wr; have n0_ := Aside0.mk (Kd.S_at hq_ HO_3.out); have n1_ := Aside0.mk (Kd.R_at hq_ HL146.out); have n2_ := Aside0.mk (below_at hq_ HB.out); clear hq_ HO_3 HL146 HB; have HO_3 := n0_; have HL146 := n1_; have HB := n2_; clear n0_ n1_ n2_; (try (have hq31 : ((ji25) : Int) < (x3_1.length : Int) := (by have h_ : ((ji25) : Int) < ((x3_1.length : Int) : Int) := of_decide_eq_true (by first | (with_reducible assumption) | assumption); first | exact h_ | (have e_ := (Kd.S_reads' HO_3.out).1; omega) | simpa only [List.length_set, List.length_set] using h_))); (try (obtain ⟨oki31, ce31, hcl31, hM31, hcc31, hok31, hbk31⟩ := Kd.S_borrow HO_3.out [] ((ji25) : Int) (of_decide_eq_true (by first | (with_reducible assumption) | assumption)) hq31)); (try (obtain ⟨ve31_0, rfl, ge31_0⟩ := hM31)); (try (have hv31 := hcc31 0 _ rfl)); (try (rw [Nat.add_zero, show ((Kd.slice 2 (Kd.int .i64))).sz = 1 from rfl, Nat.mul_one] at hv31)); (try (replace hv31 := Option.some.inj (hv31.symm.trans HX128_0.out))); (try (subst hv31)); (try (clear hcc31 hcl31)); (try (replace ge31_0 := (show Kd.R (Kd.int .i64) 2 _ _ _ _ (rd_L1 x3_1 (ji25)) from ge31_0))); (try (have HP31 := Kd.R_putg ge31_0 (1 : Int) (wrap64 ((rd (rd_L1 x3_1 (ji25)) 1) + 1)))))); refine store_event (t := 2) (p := 43) (v := ?vo_w32) (w1 := (wr.setCell ⟨go29, 1, none⟩ (.int .i64 (wrap64 ((rd (rd_L1 x3_1 (ji25)) 1) + 1))))) ?hg ?ho ?hn ?hr ?_; (case ho => rfl); (case hg => rfl); (case hn => rfl); (case hr => first | (go_simp; done) | (go_simp; rfl)); intro w32 hw; have hg : wr.grownBy w32 (some go29) := (by rw [hw]; exact HP31.2); have hz_ : Kd.R (Kd.int .i64) 2 w32 w.heap.size oki31 (.slice (some ⟨go29, 0, none⟩) (rd_L1 x3_1 (ji25)).length c128_0) y130 := (by rw [hw, Ny130.out]; exact HP31.1); have hp_ : Kd.S (Kd.slice 2 (Kd.int .i64)) 24 w32 w.heap.size (fun _ => True) (.slice (some ad128) x3_1.length co30) y132 := (by rw [Ny132.out]; exact hbk31 hg (fun k_ e_ => by injection e_ with e_; subst e_; exact ge31_0.1 _ rfl) (Kd.M_row hz_)); have hm_ := Kd.R_mono hz_ hok31; clear HP31 hbk31; have n0_ := Aside0.mk (hp_); have n1_ := Aside0.mk ((by rw [hw]; exact below_set (HB.out) GB29.out : Below w.heap.size w w32)); have n2_ := Aside0.mk (hm_); have n3_ := Aside0.mk ((Kd.R_reads' hm_).2.1); clear HO_3; clear HB; clear HL128_0; have HO_3 := n0_; have HB := n1_; have HL146 := n2_; have HC131 := n3_; clear n0_ n1_ n2_ n3_; clear hg hw hp_ hz_ hm_ hok31)))
                        go_roundg k1
                        case measure => have := HK1.out; omega
                        case rel =>
                          generalize hq_ : World.drewN wr _ = wr1_
                          have g1_ := Kd.R_at hq_ ge31_0
                          have HPd_ := Kd.R_putg g1_ (1 : Int) (wrap64 ((rd (rd_L1 x3_1 (ji25)) 1) + 1))
                          have mB_ := below_at hq_ HB.out
                          have gw_ : wr.grownBy wr1_ (some go29) := by rw [← hq_]; exact grown_of_below (pw_below_drewN (Below.refl _ _) _) _
                          have hg_ := gw_.trans HPd_.2
                          have n5_ := Aside0.mk (below_set mB_ GB29.out (j := 1) (v := (.int .i64 (wrap64 ((rd (rd_L1 x3_1 (ji25)) 1) + 1)))))
                          have hz_ : Kd.R (Kd.int .i64) 2 (wr1_.setCell ⟨go29, 1, none⟩ (.int .i64 (wrap64 ((rd (rd_L1 x3_1 (ji25)) 1) + 1)))) w.heap.size oki31 (.slice (some ⟨go29, 0, none⟩) (rd_L1 x3_1 (ji25)).length c128_0) y130 := (by rw [Ny130.out]; exact HPd_.1)
                          have n0_ : Aside0 (Kd.S (Kd.slice 2 (Kd.int .i64)) 24 (wr1_.setCell ⟨go29, 1, none⟩ (.int .i64 (wrap64 ((rd (rd_L1 x3_1 (ji25)) 1) + 1)))) w.heap.size (fun _ => True) (.slice (some ad128) x3_1.length co30) y132) := ⟨by rw [Ny132.out]; exact hbk31 hg_ (fun k_ e_ => by injection e_ with e_; subst e_; exact ge31_0.1 _ rfl) (Kd.M_row hz_)⟩
                          clear HO_3 HB
                          have HO_3 := n0_
                          have HB := n5_
                          exact ⟨(y132), (wrap64 (x4_1 + 1)), (by first | rfl | (simp; done) | (simp [*]; done)), H', ⟨by have := HK1.out; omega⟩, ⟨by (with_reducible repeat (first | apply Kd.S_alloc | apply Kd.S_drewN | apply Kd.S_drew)); exact HO_3.out⟩, ⟨by repeat (first | (with_reducible first | exact HB.out | apply below_alloc | apply pw_below_drewN | apply below_drew1) | exact HB.out)⟩⟩
                      · rw [if_neg c28] at H
                        exact absurd H (by simp)
                    · rw [if_neg c27] at H
                      exact absurd H (by simp)
                  · rw [if_neg c26] at H
                    exact absurd H (by simp)
                · rw [if_neg c24] at H
                  have c24b0 : ((rd l0 x4_1) == (rd l0 (ji21))) = false := beq_eq_false_iff_ne.mpr c24
                  have c24b1 : ((rd l0 x4_1) != (rd l0 (ji21))) = true := bne_iff_ne.mpr c24
                  obtain ⟨y134, hy134⟩ : ∃ y_ : List Int, y_ = (([rd l0 x4_1, 0] : List Int)) := ⟨_, rfl⟩
                  replace H : (if x3_1.length < 5864062014805 then ((some (x3_1 ++ [y134] : List (List Int))).bind fun y137 => (if 0 ≤ (wrap64 ((y137.length : Int) - 1)) then (if (wrap64 ((y137.length : Int) - 1)) < (y137.length : Int) then (if 1 < ((rd_L1 y137 (wrap64 ((y137.length : Int) - 1))).length : Int) then (spec_l01Runs.l0 k1 l0 (y137.set ((wrap64 ((y137.length : Int) - 1)) : Int).toNat ((rd_L1 y137 (wrap64 ((y137.length : Int) - 1))).set (1 : Int).toNat (wrap64 ((rd (rd_L1 y137 (wrap64 ((y137.length : Int) - 1))) 1) + 1)))) (wrap64 (x4_1 + 1))) else (none)) else (none)) else (none))) else (none)) = some r := by first | (rw [hy134]; with_reducible exact H) | (have H2_ := (Option.bind_some _ _).symm.trans H; rw [hy134]; with_reducible exact H2_) | (have H2_ := (Option.bind_some _ _).symm.trans H; with_reducible exact H2_) | with_reducible exact H | (rw [hy134]; exact H) | exact H
                  have Ny134 := Aside0.mk hy134
                  clear hy134
                  by_cases c33 : x3_1.length < 5864062014805
                  · rw [if_pos c33] at H
                    have LMc33 := Aside0.mk c33
                    clear c33
                    obtain ⟨y137, hy137⟩ : ∃ y_ : List (List Int), y_ = (x3_1 ++ [y134]) := ⟨_, rfl⟩
                    replace H : (if 0 ≤ (wrap64 ((y137.length : Int) - 1)) then (if (wrap64 ((y137.length : Int) - 1)) < (y137.length : Int) then (if 1 < ((rd_L1 y137 (wrap64 ((y137.length : Int) - 1))).length : Int) then (spec_l01Runs.l0 k1 l0 (y137.set ((wrap64 ((y137.length : Int) - 1)) : Int).toNat ((rd_L1 y137 (wrap64 ((y137.length : Int) - 1))).set (1 : Int).toNat (wrap64 ((rd (rd_L1 y137 (wrap64 ((y137.length : Int) - 1))) 1) + 1)))) (wrap64 (x4_1 + 1))) else (none)) else (none)) else (none)) = some r := by first | (rw [hy137]; with_reducible exact H) | (have H2_ := (Option.bind_some _ _).symm.trans H; rw [hy137]; with_reducible exact H2_) | (have H2_ := (Option.bind_some _ _).symm.trans H; with_reducible exact H2_) | with_reducible exact H | (rw [hy137]; exact H) | exact H
                    have Ny137 := Aside0.mk hy137
                    clear hy137
                    obtain ⟨ji34, hji34⟩ : ∃ j_ : Int, (wrap64 ((y137.length : Int) - 1)) = j_ := ⟨_, rfl⟩
                    replace H : (if 0 ≤ (ji34) then (if (ji34) < (y137.length : Int) then (if 1 < ((rd_L1 y137 (ji34)).length : Int) then (spec_l01Runs.l0 k1 l0 (y137.set ((ji34) : Int).toNat ((rd_L1 y137 (ji34)).set (1 : Int).toNat (wrap64 ((rd (rd_L1 y137 (ji34)) 1) + 1)))) (wrap64 (x4_1 + 1))) else (none)) else (none)) else (none)) = some r := by first | (rw [hji34] at H; exact H) | (simp only [hji34] at H ⊢; exact H)
                    have hji34w : (IntKind.i64.wrap ((y137.length : Int) - 1)) = ji34 := (i64_w _).trans hji34
                    by_cases c35 : 0 ≤ (ji34)
                    · rw [if_pos c35] at H
                      have c35b0 : decide (0 ≤ (ji34)) = true := decide_eq_true c35
                      clear c35
                      by_cases c36 : (ji34) < (y137.length : Int)
                      · rw [if_pos c36] at H
                        have c36b0 : decide ((ji34) < (y137.length : Int)) = true := decide_eq_true c36
                        clear c36
                        by_cases c37 : 1 < ((rd_L1 y137 (ji34)).length : Int)
                        · rw [if_pos c37] at H
                          have c37b0 : decide (1 < ((rd_L1 y137 (ji34)).length : Int)) = true := decide_eq_true c37
                          have c37b1 : decide (1 < (rd_L1 y137 (ji34)).length) = true := decide_eq_true (by omega)
                          clear c37
                          obtain ⟨y142, hy142⟩ : ∃ y_ : List Int, y_ = ((rd_L1 y137 (ji34)).set (1 : Int).toNat (wrap64 ((rd (rd_L1 y137 (ji34)) 1) + 1))) := ⟨_, rfl⟩
                          replace H : (spec_l01Runs.l0 k1 l0 (y137.set ((ji34) : Int).toNat y142) (wrap64 (x4_1 + 1))) = some r := by first | (rw [hy142]; with_reducible exact H) | (have H2_ := (Option.bind_some _ _).symm.trans H; rw [hy142]; with_reducible exact H2_) | (have H2_ := (Option.bind_some _ _).symm.trans H; with_reducible exact H2_) | with_reducible exact H | (rw [hy142]; exact H) | exact H
                          have Ny142 := Aside0.mk hy142
                          clear hy142
                          obtain ⟨y144, hy144⟩ : ∃ y_ : List (List Int), y_ = (y137.set ((ji34) : Int).toNat y142) := ⟨_, rfl⟩
                          replace H : (spec_l01Runs.l0 k1 l0 y144 (wrap64 (x4_1 + 1))) = some r := by first | (rw [hy144]; with_reducible exact H) | (have H2_ := (Option.bind_some _ _).symm.trans H; rw [hy144]; with_reducible exact H2_) | (have H2_ := (Option.bind_some _ _).symm.trans H; with_reducible exact H2_) | with_reducible exact H | (rw [hy144]; exact H) | exact H
                          have Ny144 := Aside0.mk hy144
                          clear hy144
                          have H' := Aside0.mk H
                          clear H
                          have p126 : 0 ≤ (x4_1 : Int) := of_decide_eq_true (by first | (with_reducible assumption) | assumption)
                          have q126 : x4_1 < (l0.length : Int) := of_decide_eq_true (by first | (with_reducible assumption) | assumption)
                          obtain ⟨ad126, e126, hx126_0⟩ := Kd.at_int HR0.out x4_1 p126 q126
                          cases e126
                          replace hx126_0 := (HB.out.cell (World.block_lt_of_cell? w _ hx126_0)).trans hx126_0
                          replace p126 := eq_true p126
                          replace q126 := eq_true q126
                          have p127 : 0 ≤ ((ji21) : Int) := of_decide_eq_true (by first | (with_reducible assumption) | assumption)
                          have q127 : (ji21) < (l0.length : Int) := of_decide_eq_true (by first | (with_reducible assumption) | assumption)
                          obtain ⟨ad127, e127, hx127_0⟩ := Kd.at_int HR0.out (ji21) p127 q127
                          obtain rfl : ad126 = ad127 := (by injection e127)
                          replace hx127_0 := (HB.out.cell (World.block_lt_of_cell? w _ hx127_0)).trans hx127_0
                          replace p127 := eq_true p127
                          replace q127 := eq_true q127
                          have p133 : 0 ≤ (x4_1 : Int) := of_decide_eq_true (by first | (with_reducible assumption) | assumption)
                          have q133 : x4_1 < (l0.length : Int) := of_decide_eq_true (by first | (with_reducible assumption) | assumption)
                          obtain ⟨ad133, e133, hx133_0⟩ := Kd.at_int HR0.out x4_1 p133 q133
                          obtain rfl : ad126 = ad133 := (by injection e133)
                          replace hx133_0 := (HB.out.cell (World.block_lt_of_cell? w _ hx133_0)).trans hx133_0
                          replace p133 := eq_true p133
                          replace q133 := eq_true q133
                          go_wp2_with (first | ((with_reducible refine gate_dst (N := 31) rfl ?_); refine Kd.R_lit (Kd.int .i64) _ 2 ?hg (N := 31) ?hd (xs := ([rd l0 x4_1, 0] : List Int)) (inner := [.int .i64 (rd l0 x4_1), .int .i64 0]) (ok := fun _ => True) (okp := fun _ => True) ?hr ?hp (fun _ hk => hk) trivial (Below.refl _ _) (Nat.le_refl _) (by simp) ?_; (case hd => rfl); (case hg => rfl); (case hr => first | (go_simp; done) | (go_simp; rfl)); (case hp => exact (Reps.one (show Kd.M (Kd.int .i64) _ _ _ (rd l0 x4_1) [.int .i64 (rd l0 x4_1)] from rfl) (Reps.one (show Kd.M (Kd.int .i64) _ _ _ 0 [.int .i64 0] from rfl) (Reps.none _ _)))); intro v135 w39 ho40 hb hg_ hnew_; clear hg_ hnew_; (first | rw [← Ny134.out] at ho40 | (simp only [Int.reduceToNat] at ho40; rw [← Ny134.out] at ho40)); have n0_ := Aside0.mk (Kd.S_elder' (by (with_reducible repeat (first | apply Kd.S_alloc | apply Kd.S_drewN | apply Kd.S_drew)); exact HO_3.out) (Kd.R_base ho40) hb); have n1_ := Aside0.mk (Kd.R_lower ho40 (below_size (by repeat (first | (with_reducible first | exact HB.out | apply below_alloc | apply pw_below_drewN | apply below_drew1) | exact HB.out)))); have n2_ := Aside0.mk (below_step (by repeat (first | (with_reducible first | exact HB.out | apply below_alloc | apply pw_below_drewN | apply below_drew1) | exact HB.out)) hb); clear HO_3; clear HB; have HO_3 := n0_; have HO136 := n1_; have HB := n2_; clear n0_ n1_ n2_; clear hb ho40; obtain ⟨Ao42, co42, eo42⟩ := Kd.R_slice HO136.out; subst eo42) | ((with_reducible refine gate_builtin (b := .append) (xs := #[.tmp 26, .tmp 32]) rfl ?_); at_builtin; refine Kd.S_append (Kd.slice 2 (Kd.int .i64)) (w0 := w) w.heap.size rfl (.tmp 26) (.tmp 32) 41 24 (.slice none 0 0) 24 rfl Try.underlying41 info24 rfl (by decide) (by omega) u3 x3_1 y134 [.slice Ao42 y134.length co42] (fun _ => True) (fun k_ => some k_ = (.slice Ao42 y134.length co42 : Value).ownBlock) rfl rfl ?aP (fun k_ hk_ => ((Kd.R_mono (ok' := fun k_ => ((fun _ => True)) k_ ∧ some k_ ≠ (u3 : Value).ownBlock) (Kd.R_apart' (HO136.out) (Kd.S_typed HO_3.out) (by decide)) (fun k_ hk => ⟨trivial, hk.2⟩))).1 k_ hk_.symm) ?aF ?aO ?aB ?aS ?aL ?_; (case aP => exact Kd.M_row (Kd.R_mono (Kd.R_tight rfl (Kd.R_mono (ok' := fun k_ => ((fun _ => True)) k_ ∧ some k_ ≠ (u3 : Value).ownBlock) (Kd.R_apart' (HO136.out) (Kd.S_typed HO_3.out) (by decide)) (fun k_ hk => ⟨trivial, hk.2⟩))) (fun _ h_ => h_))); (case aB => exact (by repeat (first | (with_reducible first | exact HB.out | apply below_alloc | apply pw_below_drewN | apply below_drew1) | exact HB.out))); (case aF => exact (fun _ _ => trivial)); (case aO => exact (by (with_reducible repeat (first | apply Kd.S_alloc | apply Kd.S_drewN | apply Kd.S_drew)); exact Kd.S_mono HO_3.out (fun k_ hk => ⟨trivial, fun e_ => hk.2 e_⟩))); (case aS => exact (below_size (by repeat (first | (with_reducible first | exact HB.out | apply below_alloc | apply pw_below_drewN | apply below_drew1) | exact HB.out)))); (case aL => have := LMc33.out; omega); intro v138 w41 ho hb hg hat; rw [← Ny137.out] at ho; have n0_ := Aside0.mk (hb); have n1_ := Aside0.mk (ho); clear HB; clear HO_3; clear HO136; have HB := n0_; have HO139 := n1_; clear n0_ n1_; clear ho hb hg hat; obtain ⟨Ao43, co43, eo43⟩ := Kd.S_slice HO139.out; subst eo43; have p140 : 0 ≤ ((ji34) : Int) := of_decide_eq_true (by first | (with_reducible assumption) | assumption); have q140 : (ji34) < (y137.length : Int) := of_decide_eq_true (by first | (with_reducible assumption) | assumption); obtain ⟨ad140, A140_0, c140_0, e140, hx140_0, hl140_0, hi140_0⟩ := at_L1 (Kd.S_reads' HO139.out).2.2 (ji34) p140 q140; cases e140; obtain ⟨ce140, hce140, hMe140, hcc140⟩ := Kd.S_get HO139.out [] (ji34) p140 (by first | exact q140 | exact of_decide_eq_true (by first | (with_reducible assumption) | assumption) | (have e_ := (Kd.S_reads' HO139.out).1; omega)); obtain ⟨ve140_0, rfl, ge140_0⟩ := hMe140; have hv140_0 := hcc140 0 _ rfl; rw [Nat.add_zero, show ((Kd.slice 2 (Kd.int .i64))).sz = 1 from rfl, Nat.mul_one] at hv140_0; replace hv140_0 := Option.some.inj (hv140_0.symm.trans hx140_0); rw [hv140_0] at ge140_0; have HL140_0 := Aside0.mk (show Kd.R (Kd.int .i64) 2 _ _ _ _ (rd_L1 y137 (ji34)) from ge140_0); clear hv140_0 ge140_0; have HX140_0 := Aside0.mk hx140_0; clear hcc140 hce140; have HR140_0 := Aside0.mk hi140_0; have HC140_0 := Aside0.mk hl140_0; clear hi140_0 hl140_0; replace p140 := eq_true p140; replace q140 := eq_true q140; have p141 : 0 ≤ (1 : Int) := (by omega); have q141 : 1 < ((rd_L1 y137 (ji34)).length : Int) := of_decide_eq_true (by first | (with_reducible assumption) | assumption); obtain ⟨ad141, e141, hx141_0⟩ := Kd.at_int (by repeat (first | (with_reducible exact HR140_0.out) | (with_reducible refine Kd.C_alloc ?_ _) | (with_reducible refine Kd.C_drewN ?_ _) | (with_reducible refine Kd.C_drew ?_) | exact HR140_0.out)) 1 p141 q141; cases e141; (try simp only [show (1 : Int).toNat = 1 from rfl, Nat.reduceMul, Nat.reduceEqDiff, Go.Addr.add, ↓reduceIte] at hx141_0); have qi141 : (1 < (rd_L1 y137 (ji34)).length) = True := eq_true (by omega); (try rw [show ((1 : Int)).toNat = 1 from rfl] at hx141_0); replace p141 := eq_true p141; replace q141 := eq_true q141; have p38 : 0 ≤ (1 : Int) := (by omega); have q38 : (1 : Int) < (((rd_L1 y137 (ji34)).length : Int) : Int) := of_decide_eq_true (by first | (with_reducible assumption) | assumption); have qi38 : (1 < (rd_L1 y137 (ji34)).length) = True := eq_true (by omega); obtain ⟨go38, co38, eo38, gb38, gl38, cl38, HG38⟩ := Kd.R_form HL140_0.out (by omega); (first | cases eo38 | (injection eo38 with ea_ en_ ec_; (first | subst ea_ | (injection ea_ with ea_; subst ea_)); subst ec_; clear en_)); have GB38 := Aside0.mk gb38; have GG38 := Aside0.mk HG38; clear gb38 gl38 HG38; (first | simp only [add_plain] at hx141_0 | skip); obtain ⟨hx38_0, hf38_0⟩ := Kd.R_celln 0 HL140_0.out (1 : Int) p38 q38; (try rw [show ((1 : Int)).toNat = 1 from rfl] at hx38_0); (try simp only [Nat.reduceMul, Nat.zero_mul, Nat.zero_add, Nat.reduceAdd] at hx38_0); (try rw [show ((1 : Int)).toNat = 1 from rfl] at hf38_0); (try simp only [Nat.reduceMul, Nat.zero_mul, Nat.zero_add, Nat.reduceAdd] at hf38_0); replace p38 := eq_true p38; replace q38 := eq_true q38; have hq44 : ((ji34) : Int) < (y137.length : Int) := (by have h_ : ((ji34) : Int) < ((y137.length : Int) : Int) := of_decide_eq_true (by first | (with_reducible assumption) | assumption); first | exact h_ | (have e_ := (Kd.S_reads' HO139.out).1; omega) | simpa only [List.length_set, List.length_set] using h_); obtain ⟨oki44, ce44, hcl44, hM44, hcc44, hok44, hbk44⟩ := Kd.S_borrow HO139.out [] ((ji34) : Int) (of_decide_eq_true (by first | (with_reducible assumption) | assumption)) hq44; obtain ⟨ve44_0, rfl, ge44_0⟩ := hM44; have hv44 := hcc44 0 _ rfl; rw [Nat.add_zero, show ((Kd.slice 2 (Kd.int .i64))).sz = 1 from rfl, Nat.mul_one] at hv44; replace hv44 := Option.some.inj (hv44.symm.trans HX140_0.out); subst hv44; clear hcc44 hcl44; replace ge44_0 := (show Kd.R (Kd.int .i64) 2 _ _ _ _ (rd_L1 y137 (ji34)) from ge44_0); have HP44 := Kd.R_putg ge44_0 (1 : Int) (wrap64 ((rd (rd_L1 y137 (ji34)) 1) + 1))) | ((with_reducible refine gate_store (t := 2) (p := 43) rfl ?_); (try (rw [drewN_self w41]; generalize hq_ : World.drewN w41 _ = w41; have n0_ := Aside0.mk (Kd.S_at hq_ HO139.out); have n1_ := Aside0.mk (Kd.R_at hq_ HL147.out); have n2_ := Aside0.mk (below_at hq_ HB.out); clear hq_ HO139 HL147 HB; have HO139 := n0_; have HL147 := n1_; have HB := n2_; clear n0_ n1_ n2_; (try (have hq44 : ((ji34) : Int) < (y137.length : Int) := (by have h_ : ((ji34) : Int) < ((y137.length : Int) : Int) := of_decide_eq_true (by first | (with_reducible assumption) | assumption); first | exact h_ | (have e_ := (Kd.S_reads' HO139.out).1; omega) | simpa only [List.length_set, List.length_set] using h_))); (try (obtain ⟨oki44, ce44, hcl44, hM44, hcc44, hok44, hbk44⟩ := Kd.S_borrow HO139.out [] ((ji34) : Int) (of_decide_eq_true (by first | (with_reducible assumption) | assumption)) hq44)); (try (obtain ⟨ve44_0, rfl, ge44_0⟩ := hM44)); (try (have hv44 := hcc44 0 _ rfl)); (try (rw [Nat.add_zero, show ((Kd.slice 2 (Kd.int .i64))).sz = 1 from rfl, Nat.mul_one] at hv44)); (try (replace hv44 := Option.some.inj (hv44.symm.trans HX140_0.out))); (try (subst hv44)); (try (clear hcc44 hcl44)); (try (replace ge44_0 := (show Kd.R (Kd.int .i64) 2 _ _ _ _ (rd_L1 y137 (ji34)) from ge44_0))); (try (have HP44 := Kd.R_putg ge44_0 (1 : Int) (wrap64 ((rd (rd_L1 y137 (ji34)) 1) + 1)))))); refine store_event (t := 2) (p := 43) (v := ?vo_w45) (w1 := (w41.setCell ⟨go38, 1, none⟩ (.int .i64 (wrap64 ((rd (rd_L1 y137 (ji34)) 1) + 1))))) ?hg ?ho ?hn ?hr ?_; (case ho => rfl); (case hg => rfl); (case hn => rfl); (case hr => first | (go_simp; done) | (go_simp; rfl)); intro w45 hw; have hg : w41.grownBy w45 (some go38) := (by rw [hw]; exact HP44.2); have hz_ : Kd.R (Kd.int .i64) 2 w45 w.heap.size oki44 (.slice (some ⟨go38, 0, none⟩) (rd_L1 y137 (ji34)).length c140_0) y142 := (by rw [hw, Ny142.out]; exact HP44.1); have hp_ : Kd.S (Kd.slice 2 (Kd.int .i64)) 24 w45 w.heap.size (fun _ => True) (.slice (some ad140) y137.length co43) y144 := (by rw [Ny144.out]; exact hbk44 hg (fun k_ e_ => by injection e_ with e_; subst e_; exact ge44_0.1 _ rfl) (Kd.M_row hz_)); have hm_ := Kd.R_mono hz_ hok44; clear HP44 hbk44; have n0_ := Aside0.mk (hp_); have n1_ := Aside0.mk ((by rw [hw]; exact below_set (HB.out) GB38.out : Below w.heap.size w w45)); have n2_ := Aside0.mk (hm_); have n3_ := Aside0.mk ((Kd.R_reads' hm_).2.1); clear HO139; clear HB; clear HL140_0; have HO139 := n0_; have HB := n1_; have HL147 := n2_; have HC143 := n3_; clear n0_ n1_ n2_ n3_; clear hg hw hp_ hz_ hm_ hok44))
                          repeat (go_quiet (first | ((with_reducible refine gate_dst (N := 31) rfl ?_); refine Kd.R_lit (Kd.int .i64) _ 2 ?hg (N := 31) ?hd (xs := ([rd l0 x4_1, 0] : List Int)) (inner := [.int .i64 (rd l0 x4_1), .int .i64 0]) (ok := fun _ => True) (okp := fun _ => True) ?hr ?hp (fun _ hk => hk) trivial (Below.refl _ _) (Nat.le_refl _) (by simp) ?_; (case hd => rfl); (case hg => rfl); (case hr => first | (go_simp; done) | (go_simp; rfl)); (case hp => exact (Reps.one (show Kd.M (Kd.int .i64) _ _ _ (rd l0 x4_1) [.int .i64 (rd l0 x4_1)] from rfl) (Reps.one (show Kd.M (Kd.int .i64) _ _ _ 0 [.int .i64 0] from rfl) (Reps.none _ _)))); intro v135 w39 ho40 hb hg_ hnew_; clear hg_ hnew_; (first | rw [← Ny134.out] at ho40 | (simp only [Int.reduceToNat] at ho40; rw [← Ny134.out] at ho40)); have n0_ := Aside0.mk (Kd.S_elder' (by (with_reducible repeat (first | apply Kd.S_alloc | apply Kd.S_drewN | apply Kd.S_drew)); exact HO_3.out) (Kd.R_base ho40) hb); have n1_ := Aside0.mk (Kd.R_lower ho40 (below_size (by repeat (first | (with_reducible first | exact HB.out | apply below_alloc | apply pw_below_drewN | apply below_drew1) | exact HB.out)))); have n2_ := Aside0.mk (below_step (by repeat (first | (with_reducible first | exact HB.out | apply below_alloc | apply pw_below_drewN | apply below_drew1) | exact HB.out)) hb); clear HO_3; clear HB; have HO_3 := n0_; have HO136 := n1_; have HB := n2_; clear n0_ n1_ n2_; clear hb ho40; obtain ⟨Ao42, co42, eo42⟩ := Kd.R_slice HO136.out; subst eo42) | ((with_reducible refine gate_builtin (b := .append) (xs := #[.tmp 26, .tmp 32]) rfl ?_); at_builtin; refine Kd.S_append (Kd.slice 2 (Kd.int .i64)) (w0 := w) w.heap.size rfl (.tmp 26) (.tmp 32) 41 24 (.slice none 0 0) 24 rfl Try.underlying41 info24 rfl (by decide) (by omega) u3 x3_1 y134 [.slice Ao42 y134.length co42] (fun _ => True) (fun k_ => some k_ = (.slice Ao42 y134.length co42 : Value).ownBlock) rfl rfl ?aP (fun k_ hk_ => ((Kd.R_mono (ok' := fun k_ => ((fun _ => True)) k_ ∧ some k_ ≠ (u3 : Value).ownBlock) (Kd.R_apart' (HO136.out) (Kd.S_typed HO_3.out) (by decide)) (fun k_ hk => ⟨trivial, hk.2⟩))).1 k_ hk_.symm) ?aF ?aO ?aB ?aS ?aL ?_; (case aP => exact Kd.M_row (Kd.R_mono (Kd.R_tight rfl (Kd.R_mono (ok' := fun k_ => ((fun _ => True)) k_ ∧ some k_ ≠ (u3 : Value).ownBlock) (Kd.R_apart' (HO136.out) (Kd.S_typed HO_3.out) (by decide)) (fun k_ hk => ⟨trivial, hk.2⟩))) (fun _ h_ => h_))); (case aB => exact (by repeat (first | (with_reducible first | exact HB.out | apply below_alloc | apply pw_below_drewN | apply below_drew1) | exact HB.out))); (case aF => exact (fun _ _ => trivial)); (case aO => exact (by (with_reducible repeat (first | apply Kd.S_alloc | apply Kd.S_drewN | apply Kd.S_drew)); exact Kd.S_mono HO_3.out (fun k_ hk => ⟨trivial, fun e_ => hk.2 e_⟩))); (case aS => exact (below_size (by repeat (first | (with_reducible first | exact HB.out | apply below_alloc | apply pw_below_drewN | apply below_drew1) | exact HB.out)))); (case aL => have := LMc33.out; omega); intro v138 w41 ho hb hg hat; rw [← Ny137.out] at ho; have n0_ := Aside0.mk (hb); have n1_ := Aside0.mk (ho); clear HB; clear HO_3; clear HO136; have HB := n0_; have HO139 := n1_; clear n0_ n1_; clear ho hb hg hat; obtain ⟨Ao43, co43, eo43⟩ := Kd.S_slice HO139.out; subst eo43; have p140 : 0 ≤ ((ji34) : Int) := of_decide_eq_true (by first | (with_reducible assumption) | assumption); have q140 : (ji34) < (y137.length : Int) := of_decide_eq_true (by first | (with_reducible assumption) | assumption); obtain ⟨ad140, A140_0, c140_0, e140, hx140_0, hl140_0, hi140_0⟩ := at_L1 (Kd.S_reads' HO139.out).2.2 (ji34) p140 q140; cases e140; obtain ⟨ce140, hce140, hMe140, hcc140⟩ := Kd.S_get HO139.out [] (ji34) p140 (by first | exact q140 | exact of_decide_eq_true (by first | (with_reducible assumption) | assumption) | (have e_ := (Kd.S_reads' HO139.out).1; omega)); obtain ⟨ve140_0, rfl, ge140_0⟩ := hMe140; have hv140_0 := hcc140 0 _ rfl; rw [Nat.add_zero, show ((Kd.slice 2 (Kd.int .i64))).sz = 1 from rfl, Nat.mul_one] at hv140_0; replace hv140_0 := Option.some.inj (hv140_0.symm.trans hx140_0); rw [hv140_0] at ge140_0; have HL140_0 := Aside0.mk (show Kd.R (Kd.int .i64) 2 _ _ _ _ (rd_L1 y137 (ji34)) from ge140_0); clear hv140_0 ge140_0; have HX140_0 := Aside0.mk hx140_0; clear hcc140 hce140; have HR140_0 := Aside0.mk hi140_0; have HC140_0 := Aside0.mk hl140_0; clear hi140_0 hl140_0; replace p140 := eq_true p140; replace q140 := eq_true q140; have p141 : 0 ≤ (1 : Int) := (by omega); have q141 : 1 < ((rd_L1 y137 (ji34)).length : Int) := of_decide_eq_true (by first | (with_reducible assumption) | assumption); obtain ⟨ad141, e141, hx141_0⟩ := Kd.at_int (by repeat (first | (with_reducible exact HR140_0.out) | (with_reducible refine Kd.C_alloc ?_ _) | (with_reducible refine Kd.C_drewN ?_ _) | (with_reducible refine Kd.C_drew ?_) | exact HR140_0.out)) 1 p141 q141; cases e141; (try simp only [show (1 : Int).toNat = 1 from rfl, Nat.reduceMul, Nat.reduceEqDiff, Go.Addr.add, ↓reduceIte] at hx141_0); have qi141 : (1 < (rd_L1 y137 (ji34)).length) = True := eq_true (by omega); (try rw [show ((1 : Int)).toNat = 1 from rfl] at hx141_0); replace p141 := eq_true p141; replace q141 := eq_true q141; have p38 : 0 ≤ (1 : Int) := (by omega); have q38 : (1 : Int) < (((rd_L1 y137 (ji34)).length : Int) : Int) := of_decide_eq_true (by first | (with_reducible assumption) | assumption); have qi38 : (1 < (rd_L1 y137 (ji34)).length) = True := eq_true (by omega); obtain ⟨go38, co38, eo38, gb38, gl38, cl38, HG38⟩ := Kd.R_form HL140_0.out (by omega); (first | cases eo38 | (injection eo38 with ea_ en_ ec_; (first | subst ea_ | (injection ea_ with ea_; subst ea_)); subst ec_; clear en_)); have GB38 := Aside0.mk gb38; have GG38 := Aside0.mk HG38; clear gb38 gl38 HG38; (first | simp only [add_plain] at hx141_0 | skip); obtain ⟨hx38_0, hf38_0⟩ := Kd.R_celln 0 HL140_0.out (1 : Int) p38 q38; (try rw [show ((1 : Int)).toNat = 1 from rfl] at hx38_0); (try simp only [Nat.reduceMul, Nat.zero_mul, Nat.zero_add, Nat.reduceAdd] at hx38_0); (try rw [show ((1 : Int)).toNat = 1 from rfl] at hf38_0); (try simp only [Nat.reduceMul, Nat.zero_mul, Nat.zero_add, Nat.reduceAdd] at hf38_0); replace p38 := eq_true p38; replace q38 := eq_true q38; have hq44 : ((ji34) : Int) < (y137.length : Int) := (by have h_ : ((ji34) : Int) < ((y137.length : Int) : Int) := of_decide_eq_true (by first | (with_reducible assumption) | assumption); first | exact h_ | (have e_ := (Kd.S_reads' HO139.out).1; omega) | simpa only [List.length_set, List.length_set] using h_); obtain ⟨oki44, ce44, hcl44, hM44, hcc44, hok44, hbk44⟩ := Kd.S_borrow HO139.out [] ((ji34) : Int) (of_decide_eq_true (by first | (with_reducible assumption) | assumption)) hq44; obtain ⟨ve44_0, rfl, ge44_0⟩ := hM44; have hv44 := hcc44 0 _ rfl; rw [Nat.add_zero, show ((Kd.slice 2 (Kd.int .i64))).sz = 1 from rfl, Nat.mul_one] at hv44; replace hv44 := Option.some.inj (hv44.symm.trans HX140_0.out); subst hv44; clear hcc44 hcl44; replace ge44_0 := (show Kd.R (Kd.int .i64) 2 _ _ _ _ (rd_L1 y137 (ji34)) from ge44_0); have HP44 := Kd.R_putg ge44_0 (1 : Int) (wrap64 ((rd (rd_L1 y137 (ji34)) 1) + 1))) | ((with_reducible refine gate_store (t := 2) (p := 43) rfl ?_); (try (rw [drewN_self w41]; generalize hq_ : World.drewN w41 _ = w41; have n0_ := Aside0.mk (Kd.S_at hq_ HO139.out); have n1_ := Aside0.mk (Kd.R_at hq_ HL147.out); have n2_ := Aside0.mk (below_at hq_ HB.out); clear hq_ HO139 HL147 HB; have HO139 := n0_; have HL147 := n1_; have HB := n2_; clear n0_ n1_ n2_; (try (have hq44 : ((ji34) : Int) < (y137.length : Int) := (by have h_ : ((ji34) : Int) < ((y137.length : Int) : Int) := of_decide_eq_true (by first | (with_reducible assumption) | assumption); first | exact h_ | (have e_ := (Kd.S_reads' HO139.out).1; omega) | simpa only [List.length_set, List.length_set] using h_))); (try (obtain ⟨oki44, ce44, hcl44, hM44, hcc44, hok44, hbk44⟩ := Kd.S_borrow HO139.out [] ((ji34) : Int) (of_decide_eq_true (by first | (with_reducible assumption) | assumption)) hq44)); (try (obtain ⟨ve44_0, rfl, ge44_0⟩ := hM44)); (try (have hv44 := hcc44 0 _ rfl)); (try (rw [Nat.add_zero, show ((Kd.slice 2 (Kd.int .i64))).sz = 1 from rfl, Nat.mul_one] at hv44)); (try (replace hv44 := Option.some.inj (hv44.symm.trans HX140_0.out))); (try (subst hv44)); (try (clear hcc44 hcl44)); (try (replace ge44_0 := (show Kd.R (Kd.int .i64) 2 _ _ _ _ (rd_L1 y137 (ji34)) from ge44_0))); (try (have HP44 := Kd.R_putg ge44_0 (1 : Int) (wrap64 ((rd (rd_L1 y137 (ji34)) 1) + 1)))))); refine store_event (t := 2) (p := 43) (v := ?vo_w45) (w1 := (w41.setCell ⟨go38, 1, none⟩ (.int .i64 (wrap64 ((rd (rd_L1 y137 (ji34)) 1) + 1))))) ?hg ?ho ?hn ?hr ?_; (case ho => rfl); (case hg => rfl); (case hn => rfl); (case hr => first | (go_simp; done) | (go_simp; rfl)); intro w45 hw; have hg : w41.grownBy w45 (some go38) := (by rw [hw]; exact HP44.2); have hz_ : Kd.R (Kd.int .i64) 2 w45 w.heap.size oki44 (.slice (some ⟨go38, 0, none⟩) (rd_L1 y137 (ji34)).length c140_0) y142 := (by rw [hw, Ny142.out]; exact HP44.1); have hp_ : Kd.S (Kd.slice 2 (Kd.int .i64)) 24 w45 w.heap.size (fun _ => True) (.slice (some ad140) y137.length co43) y144 := (by rw [Ny144.out]; exact hbk44 hg (fun k_ e_ => by injection e_ with e_; subst e_; exact ge44_0.1 _ rfl) (Kd.M_row hz_)); have hm_ := Kd.R_mono hz_ hok44; clear HP44 hbk44; have n0_ := Aside0.mk (hp_); have n1_ := Aside0.mk ((by rw [hw]; exact below_set (HB.out) GB38.out : Below w.heap.size w w45)); have n2_ := Aside0.mk (hm_); have n3_ := Aside0.mk ((Kd.R_reads' hm_).2.1); clear HO139; clear HB; clear HL140_0; have HO139 := n0_; have HB := n1_; have HL147 := n2_; have HC143 := n3_; clear n0_ n1_ n2_ n3_; clear hg hw hp_ hz_ hm_ hok44)); try go_wp2_with (first | ((with_reducible refine gate_dst (N := 31) rfl ?_); refine Kd.R_lit (Kd.int .i64) _ 2 ?hg (N := 31) ?hd (xs := ([rd l0 x4_1, 0] : List Int)) (inner := [.int .i64 (rd l0 x4_1), .int .i64 0]) (ok := fun _ => True) (okp := fun _ => True) ?hr ?hp (fun _ hk => hk) trivial (Below.refl _ _) (Nat.le_refl _) (by simp) ?_; (case hd => rfl); (case hg => rfl); (case hr => first | (go_simp; done) | (go_simp; rfl)); (case hp => exact (Reps.one (show Kd.M (Kd.int .i64) _ _ _ (rd l0 x4_1) [.int .i64 (rd l0 x4_1)] from rfl) (Reps.one (show Kd.M (Kd.int .i64) _ _ _ 0 [.int .i64 0] from rfl) (Reps.none _ _)))); intro v135 w39 ho40 hb hg_ hnew_; clear hg_ hnew_; (first | rw [← Ny134.out] at ho40 | (simp only [Int.reduceToNat] at ho40; rw [← Ny134.out] at ho40)); have n0_ := Aside0.mk (Kd.S_elder' (by (with_reducible repeat (first | apply Kd.S_alloc | apply Kd.S_drewN | apply Kd.S_drew)); exact HO_3.out) (Kd.R_base ho40) hb); have n1_ := Aside0.mk (Kd.R_lower ho40 (below_size (by repeat (first | (with_reducible first | exact HB.out | apply below_alloc | apply pw_below_drewN | apply below_drew1) | exact HB.out)))); have n2_ := Aside0.mk (below_step (by repeat (first | (with_reducible first | exact HB.out | apply below_alloc | apply pw_below_drewN | apply below_drew1) | exact HB.out)) hb); clear HO_3; clear HB; have HO_3 := n0_; have HO136 := n1_; have HB := n2_; clear n0_ n1_ n2_; clear hb ho40; obtain ⟨Ao42, co42, eo42⟩ := Kd.R_slice HO136.out; subst eo42) | ((with_reducible refine gate_builtin (b := .append) (xs := #[.tmp 26, .tmp 32]) rfl ?_); at_builtin; refine Kd.S_append (Kd.slice 2 (Kd.int .i64)) (w0 := w) w.heap.size rfl (.tmp 26) (.tmp 32) 41 24 (.slice none 0 0) 24 rfl Try.underlying41 info24 rfl (by decide) (by omega) u3 x3_1 y134 [.slice Ao42 y134.length co42] (fun _ => True) (fun k_ => some k_ = (.slice Ao42 y134.length co42 : Value).ownBlock) rfl rfl ?aP (fun k_ hk_ => ((Kd.R_mono (ok' := fun k_ => ((fun _ => True)) k_ ∧ some k_ ≠ (u3 : Value).ownBlock) (Kd.R_apart' (HO136.out) (Kd.S_typed HO_3.out) (by decide)) (fun k_ hk => ⟨trivial, hk.2⟩))).1 k_ hk_.symm) ?aF ?aO ?aB ?aS ?aL ?_; (case aP => exact Kd.M_row (Kd.R_mono (Kd.R_tight rfl (Kd.R_mono (ok' := fun k_ => ((fun _ => True)) k_ ∧ some k_ ≠ (u3 : Value).ownBlock) (Kd.R_apart' (HO136.out) (Kd.S_typed HO_3.out) (by decide)) (fun k_ hk => ⟨trivial, hk.2⟩))) (fun _ h_ => h_))); (case aB => exact (by repeat (first | (with_reducible first | exact HB.out | apply below_alloc | apply pw_below_drewN | apply below_drew1) | exact HB.out))); (case aF => exact (fun _ _ => trivial)); (case aO => exact (by (with_reducible repeat (first | apply Kd.S_alloc | apply Kd.S_drewN | apply Kd.S_drew)); exact Kd.S_mono HO_3.out (fun k_ hk => ⟨trivial, fun e_ => hk.2 e_⟩))); (case aS => exact (below_size (by repeat (first | (with_reducible first | exact HB.out | apply below_alloc | apply pw_below_drewN | apply below_drew1) | exact HB.out)))); (case aL => have := LMc33.out; omega); intro v138 w41 ho hb hg hat; rw [← Ny137.out] at ho; have n0_ := Aside0.mk (hb); have n1_ := Aside0.mk (ho); clear HB; clear HO_3; clear HO136; have HB := n0_; have HO139 := n1_; clear n0_ n1_; clear ho hb hg hat; obtain ⟨Ao43, co43, eo43⟩ := Kd.S_slice HO139.out; subst eo43; have p140 : 0 ≤ ((ji34) : Int) := of_decide_eq_true (by first | (with_reducible assumption) | assumption); have q140 : (ji34) < (y137.length : Int) := of_decide_eq_true (by first | (with_reducible assumption) | assumption); obtain ⟨ad140, A140_0, c140_0, e140, hx140_0, hl140_0, hi140_0⟩ := at_L1 (Kd.S_reads' HO139.out).2.2 (ji34) p140 q140; cases e140; obtain ⟨ce140, hce140, hMe140, hcc140⟩ := Kd.S_get HO139.out [] (ji34) p140 (by first | exact q140 | exact of_decide_eq_true (by first | (with_reducible assumption) | assumption) | (have e_ := (Kd.S_reads' HO139.out).1; omega)); obtain ⟨ve140_0, rfl, ge140_0⟩ := hMe140; have hv140_0 := hcc140 0 _ rfl; rw [Nat.add_zero, show ((Kd.slice 2 (Kd.int .i64))).sz = 1 from rfl, Nat.mul_one] at hv140_0; replace hv140_0 := Option.some.inj (hv140_0.symm.trans hx140_0); rw [hv140_0] at ge140_0; have HL140_0 := Aside0.mk (show Kd.R (Kd.int .i64) 2 _ _ _ _ (rd_L1 y137 (ji34)) from ge140_0); clear hv140_0 ge140_0; have HX140_0 := Aside0.mk hx140_0; clear hcc140 hce140; have HR140_0 := Aside0.mk hi140_0; have HC140_0 := Aside0.mk hl140_0; clear hi140_0 hl140_0; replace p140 := eq_true p140; replace q140 := eq_true q140; have p141 : 0 ≤ (1 : Int) := (by omega); have q141 : 1 < ((rd_L1 y137 (ji34)).length : Int) := of_decide_eq_true (by first | (with_reducible assumption) | assumption); obtain ⟨ad141, e141, hx141_0⟩ := Kd.at_int (by repeat (first | (with_reducible exact HR140_0.out) | (with_reducible refine Kd.C_alloc ?_ _) | (with_reducible refine Kd.C_drewN ?_ _) | (with_reducible refine Kd.C_drew ?_) | exact HR140_0.out)) 1 p141 q141; cases e141; (try simp only [show (1 : Int).toNat = 1 from rfl, Nat.reduceMul, Nat.reduceEqDiff, Go.Addr.add, ↓reduceIte] at hx141_0); have qi141 : (1 < (rd_L1 y137 (ji34)).length) = True := eq_true (by omega); (try rw [show ((1 : Int)).toNat = 1 from rfl] at hx141_0); replace p141 := eq_true p141; replace q141 := eq_true q141; have p38 : 0 ≤ (1 : Int) := (by omega); have q38 : (1 : Int) < (((rd_L1 y137 (ji34)).length : Int) : Int) := of_decide_eq_true (by first | (with_reducible assumption) | assumption); have qi38 : (1 < (rd_L1 y137 (ji34)).length) = True := eq_true (by omega); obtain ⟨go38, co38, eo38, gb38, gl38, cl38, HG38⟩ := Kd.R_form HL140_0.out (by omega); (first | cases eo38 | (injection eo38 with ea_ en_ ec_; (first | subst ea_ | (injection ea_ with ea_; subst ea_)); subst ec_; clear en_)); have GB38 := Aside0.mk gb38; have GG38 := Aside0.mk HG38; clear gb38 gl38 HG38; (first | simp only [add_plain] at hx141_0 | skip); obtain ⟨hx38_0, hf38_0⟩ := Kd.R_celln 0 HL140_0.out (1 : Int) p38 q38; (try rw [show ((1 : Int)).toNat = 1 from rfl] at hx38_0); (try simp only [Nat.reduceMul, Nat.zero_mul, Nat.zero_add, Nat.reduceAdd] at hx38_0); (try rw [show ((1 : Int)).toNat = 1 from rfl] at hf38_0); (try simp only [Nat.reduceMul, Nat.zero_mul, Nat.zero_add, Nat.reduceAdd] at hf38_0); replace p38 := eq_true p38; replace q38 := eq_true q38; have hq44 : ((ji34) : Int) < (y137.length : Int) := (by have h_ : ((ji34) : Int) < ((y137.length : Int) : Int) := of_decide_eq_true (by first | (with_reducible assumption) | assumption); first | exact h_ | (have e_ := (Kd.S_reads' HO139.out).1; omega) | simpa only [List.length_set, List.length_set] using h_); obtain ⟨oki44, ce44, hcl44, hM44, hcc44, hok44, hbk44⟩ := Kd.S_borrow HO139.out [] ((ji34) : Int) (of_decide_eq_true (by first | (with_reducible assumption) | assumption)) hq44; obtain ⟨ve44_0, rfl, ge44_0⟩ := hM44; have hv44 := hcc44 0 _ rfl; rw [Nat.add_zero, show ((Kd.slice 2 (Kd.int .i64))).sz = 1 from rfl, Nat.mul_one] at hv44; replace hv44 := Option.some.inj (hv44.symm.trans HX140_0.out); subst hv44; clear hcc44 hcl44; replace ge44_0 := (show Kd.R (Kd.int .i64) 2 _ _ _ _ (rd_L1 y137 (ji34)) from ge44_0); have HP44 := Kd.R_putg ge44_0 (1 : Int) (wrap64 ((rd (rd_L1 y137 (ji34)) 1) + 1))) | ((with_reducible refine gate_store (t := 2) (p := 43) rfl ?_); (try (rw [drewN_self w41]; generalize hq_ : World.drewN w41 _ = w41; have n0_ := Aside0.mk (Kd.S_at hq_ HO139.out); have n1_ := Aside0.mk (Kd.R_at hq_ HL147.out); have n2_ := Aside0.mk (below_at hq_ HB.out); clear hq_ HO139 HL147 HB; have HO139 := n0_; have HL147 := n1_; have HB := n2_; clear n0_ n1_ n2_; (try (have hq44 : ((ji34) : Int) < (y137.length : Int) := (by have h_ : ((ji34) : Int) < ((y137.length : Int) : Int) := of_decide_eq_true (by first | (with_reducible assumption) | assumption); first | exact h_ | (have e_ := (Kd.S_reads' HO139.out).1; omega) | simpa only [List.length_set, List.length_set] using h_))); (try (obtain ⟨oki44, ce44, hcl44, hM44, hcc44, hok44, hbk44⟩ := Kd.S_borrow HO139.out [] ((ji34) : Int) (of_decide_eq_true (by first | (with_reducible assumption) | assumption)) hq44)); (try (obtain ⟨ve44_0, rfl, ge44_0⟩ := hM44)); (try (have hv44 := hcc44 0 _ rfl)); (try (rw [Nat.add_zero, show ((Kd.slice 2 (Kd.int .i64))).sz = 1 from rfl, Nat.mul_one] at hv44)); (try (replace hv44 := Option.some.inj (hv44.symm.trans HX140_0.out))); (try (subst hv44)); (try (clear hcc44 hcl44)); (try (replace ge44_0 := (show Kd.R (Kd.int .i64) 2 _ _ _ _ (rd_L1 y137 (ji34)) from ge44_0))); (try (have HP44 := Kd.R_putg ge44_0 (1 : Int) (wrap64 ((rd (rd_L1 y137 (ji34)) 1) + 1)))))); refine store_event (t := 2) (p := 43) (v := ?vo_w45) (w1 := (w41.setCell ⟨go38, 1, none⟩ (.int .i64 (wrap64 ((rd (rd_L1 y137 (ji34)) 1) + 1))))) ?hg ?ho ?hn ?hr ?_; (case ho => rfl); (case hg => rfl); (case hn => rfl); (case hr => first | (go_simp; done) | (go_simp; rfl)); intro w45 hw; have hg : w41.grownBy w45 (some go38) := (by rw [hw]; exact HP44.2); have hz_ : Kd.R (Kd.int .i64) 2 w45 w.heap.size oki44 (.slice (some ⟨go38, 0, none⟩) (rd_L1 y137 (ji34)).length c140_0) y142 := (by rw [hw, Ny142.out]; exact HP44.1); have hp_ : Kd.S (Kd.slice 2 (Kd.int .i64)) 24 w45 w.heap.size (fun _ => True) (.slice (some ad140) y137.length co43) y144 := (by rw [Ny144.out]; exact hbk44 hg (fun k_ e_ => by injection e_ with e_; subst e_; exact ge44_0.1 _ rfl) (Kd.M_row hz_)); have hm_ := Kd.R_mono hz_ hok44; clear HP44 hbk44; have n0_ := Aside0.mk (hp_); have n1_ := Aside0.mk ((by rw [hw]; exact below_set (HB.out) GB38.out : Below w.heap.size w w45)); have n2_ := Aside0.mk (hm_); have n3_ := Aside0.mk ((Kd.R_reads' hm_).2.1); clear HO139; clear HB; clear HL140_0; have HO139 := n0_; have HB := n1_; have HL147 := n2_; have HC143 := n3_; clear n0_ n1_ n2_ n3_; clear hg hw hp_ hz_ hm_ hok44)))
                          go_roundg k1
                          case measure => have := HK1.out; omega
                          case rel => exact ⟨(y144), (wrap64 (x4_1 + 1)), (by first | rfl | (simp; done) | (simp [*]; done)), H', ⟨by have := HK1.out; omega⟩, ⟨by (with_reducible repeat (first | apply Kd.S_alloc | apply Kd.S_drewN | apply Kd.S_drew)); exact HO139.out⟩, ⟨by repeat (first | (with_reducible first | exact HB.out | apply below_alloc | apply pw_below_drewN | apply below_drew1) | exact HB.out)⟩⟩
                        · rw [if_neg c37] at H
                          exact absurd H (by simp)
                      · rw [if_neg c36] at H
                        exact absurd H (by simp)
                    · rw [if_neg c35] at H
                      exact absurd H (by simp)
                  · rw [if_neg c33] at H
                    exact absurd H (by simp)
              · rw [if_neg c23] at H
                exact absurd H (by simp)
            · rw [if_neg c22] at H
              exact absurd H (by simp)
          · rw [if_neg c20] at H
            exact absurd H (by simp)
      · rw [if_neg c4] at H
        have c4b0 : decide (x4_1 < (l0.length : Int)) = false := decide_eq_false c4
        clear c4
        obtain rfl := Option.some.inj H
        go_wp2
        repeat (go_quiet (fail); try go_wp2)
        go_ret
        exact ⟨_, by first | rfl | (simp [errW_none, errW_some] <;> rfl) | (simp [*, errW_none, errW_some] <;> rfl), by (with_reducible repeat (first | apply Kd.S_alloc | apply Kd.S_drewN | apply Kd.S_drew)); exact HO_3.out, by repeat (first | (with_reducible first | exact HB.out | apply below_alloc | apply pw_below_drewN | apply below_drew1) | exact HB.out)⟩

/-! ### spec_RunsOf: function 29 -/
def spec_RunsOf.f (k : Nat) (l0 : List Int) : Option ((List (List Int)) × Bool) := (spec_l01List.f k l0).bind fun t148 => (if t148 = true then ((spec_l01Runs.f k l0).bind fun t149 => (some (t149, true))) else (some (([] : List (List Int)), false)))
theorem spec_RunsOf.mono : ∀ a0 k, LeO (spec_RunsOf.f k a0) (spec_RunsOf.f (k + 1) a0) := by
  intro a0 k
  unfold spec_RunsOf.f
  repeat' first
      | (with_reducible exact spec_l01List.mono _ _)
      | (with_reducible exact spec_l01Runs.mono _ _)
      | (with_reducible exact LeO.refl _)
      | (with_reducible exact LeO.none _)
      | (with_reducible refine LeO.ite ?_ ?_)
      | (with_reducible refine LeO.bind ?_ (fun _ => ?_))
      | exact spec_l01List.mono _ _
      | exact spec_l01Runs.mono _ _
      | exact LeO.none _
      | refine LeO.ite ?_ ?_
      | refine LeO.bind ?_ (fun _ => ?_)
set_option maxHeartbeats 8000000 in
set_option maxRecDepth 100000 in
theorem spec_RunsOf.calls (k : Nat) (A0 : Option Addr) (c0 : Nat) (l0 : List Int) (r1 : List (List Int)) (r2 : Bool) (w : World) (hr0 : Kd.C (Kd.int .i64) w A0 l0.length l0) (hc0 : l0.length ≤ c0) (h : spec_RunsOf.f k l0 = some (r1, r2)) :
    Calls Try.prog 29 #[.slice A0 l0.length c0] w fun e w' => ∃ v0_ : Value, e = .returned (.tuple #[v0_, .bool r2]) ∧ Kd.S (Kd.slice 2 (Kd.int .i64)) 24 w' w.heap.size (fun _ => True) v0_ r1 ∧ Below w.heap.size w w' := by
  have HR0 := Aside0.mk hr0
  have HC0 := Aside0.mk hc0
  clear hr0 hc0
  have HB := Aside0.mk (Below.refl w.heap.size w)
  have H : ((spec_l01List.f k l0).bind fun t148 => (if t148 = true then ((spec_l01Runs.f k l0).bind fun t149 => (some (t149, true))) else (some (([] : List (List Int)), false)))) = some (r1, r2) := h
  clear h
  replace H := Option.bind_eq_some_iff.mp H
  obtain ⟨t148, A20, H⟩ := H
  replace H : (if t148 = true then ((spec_l01Runs.f k l0).bind fun t149 => (some (t149, true))) else (some (([] : List (List Int)), false))) = some (r1, r2) := H
  have A2 := Aside0.mk A20
  clear A20
  by_cases c3 : t148 = true
  · subst c3
    have H1 : ((spec_l01Runs.f k l0).bind fun t149 => (some (t149, true))) = some (r1, r2) := by rw [if_pos rfl] at H; exact H
    clear H
    have H := H1
    clear H1
    replace H := Option.bind_eq_some_iff.mp H
    obtain ⟨t149, A40, H⟩ := H
    replace H : (some (t149, true)) = some (r1, r2) := H
    have A4 := Aside0.mk A40
    clear A40
    simp only [Option.some.injEq, Prod.mk.injEq] at H
    obtain ⟨rfl, rfl⟩ := H
    go_enter Try.func29, Try.ntmps29
    go_wp2_with (first | ((with_reducible refine gate_callee (f := 72) rfl ?_); refine goesL_ (some 5) rfl rfl Try.func72 (by kernel_rfl) rfl #[.slice A0 l0.length c0] rfl (by (try simp only [List.map_toArray, List.map_cons, List.map_nil]); first | done | rfl | (simp only [List.length_drop, List.length_take]; rfl)) ?_; (with_reducible refine (spec_l01List.calls k _ _ l0 true _ ?side1 ?side2 A2.out).mono ?_); (case side1 => repeat (first | exact HR0.out | (with_reducible refine Kd.C_alloc ?_ _) | (with_reducible refine Kd.C_drewN ?_ _) | (with_reducible refine Kd.C_drew ?_))); (case side2 => exact HC0.out); rintro e w' ⟨rfl, ⟨nd, rfl⟩⟩; refine ⟨_, rfl, ?_⟩) | ((with_reducible refine gate_callee (f := 73) rfl ?_); refine goesL_ (some 8) rfl rfl Try.func73 (by kernel_rfl) rfl #[.slice A0 l0.length c0] rfl (by (try simp only [List.map_toArray, List.map_cons, List.map_nil]); first | done | rfl | (simp only [List.length_drop, List.length_take]; rfl)) ?_; (with_reducible refine (spec_l01Runs.calls k _ _ l0 t149 _ ?side1 ?side2 A4.out).mono ?_); (case side1 => repeat (first | exact HR0.out | (with_reducible refine Kd.C_alloc ?_ _) | (with_reducible refine Kd.C_drewN ?_ _) | (with_reducible refine Kd.C_drew ?_))); (case side2 => exact HC0.out); rintro e w5 ⟨v150, rfl, ho0, hb⟩; refine ⟨_, rfl, ?_⟩; have n0_ := Aside0.mk (Kd.S_lower ho0 (below_size (by repeat (first | (with_reducible first | exact HB.out | apply below_alloc | apply pw_below_drewN | apply below_drew1) | exact HB.out)))); have n1_ := Aside0.mk (below_step (by repeat (first | (with_reducible first | exact HB.out | apply below_alloc | apply pw_below_drewN | apply below_drew1) | exact HB.out)) hb); clear HB; have HO151 := n0_; have HB := n1_; clear n0_ n1_; (try clear hb); (try clear hb2); (try clear hk); (try clear hi); (try clear ho0)))
    go_ret2
    exact ⟨_, by first | rfl | (simp [errW_none, errW_some] <;> rfl) | (simp [*, errW_none, errW_some] <;> rfl), by (with_reducible repeat (first | apply Kd.S_alloc | apply Kd.S_drewN | apply Kd.S_drew)); exact HO151.out, by repeat (first | (with_reducible first | exact HB.out | apply below_alloc | apply pw_below_drewN | apply below_drew1) | exact HB.out)⟩
  · replace c3 := Bool.eq_false_iff.mpr c3
    subst c3
    have H1 : (some (([] : List (List Int)), false)) = some (r1, r2) := by rw [if_neg (show ¬ (false = true) by decide)] at H; exact H
    clear H
    have H := H1
    clear H1
    simp only [Option.some.injEq, Prod.mk.injEq] at H
    obtain ⟨rfl, rfl⟩ := H
    go_enter Try.func29, Try.ntmps29
    go_wp2_with (first | ((with_reducible refine gate_callee (f := 72) rfl ?_); refine goesL_ (some 5) rfl rfl Try.func72 (by kernel_rfl) rfl #[.slice A0 l0.length c0] rfl (by (try simp only [List.map_toArray, List.map_cons, List.map_nil]); first | done | rfl | (simp only [List.length_drop, List.length_take]; rfl)) ?_; (with_reducible refine (spec_l01List.calls k _ _ l0 false _ ?side1 ?side2 A2.out).mono ?_); (case side1 => repeat (first | exact HR0.out | (with_reducible refine Kd.C_alloc ?_ _) | (with_reducible refine Kd.C_drewN ?_ _) | (with_reducible refine Kd.C_drew ?_))); (case side2 => exact HC0.out); rintro e w' ⟨rfl, ⟨nd, rfl⟩⟩; refine ⟨_, rfl, ?_⟩))
    go_ret2
    exact ⟨_, by first | rfl | (simp [errW_none, errW_some] <;> rfl) | (simp [*, errW_none, errW_some] <;> rfl), by first | exact Kd.S_nil _ _ _ _ _ | exact Kd.N_nil _ _ _ _ _ | exact Kd.V_nil _ _ _ _ _ | exact Kd.Q_nil _ _ _ _ _ | exact Kd.R_nil _ _ _ _ _, by repeat (first | (with_reducible first | exact HB.out | apply below_alloc | apply pw_below_drewN | apply below_drew1) | exact HB.out)⟩

/-! ### impl_inRange: function 61 -/
def impl_inRange.f (a0 : Int) (a1 : Int) (a2 : Int) : Option (Bool) := if a1 ≤ a0 then (some (decide (a0 ≤ a2))) else (some false)
set_option maxHeartbeats 8000000 in
set_option maxRecDepth 100000 in
theorem impl_inRange.calls (a0 : Int) (a1 : Int) (a2 : Int) (r : Bool) (w : World) (h : impl_inRange.f a0 a1 a2 = some r) :
    Calls Try.prog 61 #[.int .i64 a0, .int .i64 a1, .int .i64 a2] w fun e w' => e = .returned (.bool r) ∧ Drawn0 w w' := by
  have H : (if a1 ≤ a0 then (some (decide (a0 ≤ a2))) else (some false)) = some r := h
  clear h
  by_cases c4 : a1 ≤ a0
  · rw [if_pos c4] at H
    have c4b0 : decide (a1 ≤ a0) = true := decide_eq_true c4
    clear c4
    obtain rfl := Option.some.inj H
    go_enter Try.func61, Try.ntmps61
    go_wp2
    go_ret
    exact ⟨by first | rfl | (simp; done) | (simp [*]; done), by repeat (first | exact Drawn0.refl _ | apply Drawn0.step)⟩
  · rw [if_neg c4] at H
    have c4b0 : decide (a1 ≤ a0) = false := decide_eq_false c4
    clear c4
    obtain rfl := Option.some.inj H
    go_enter Try.func61, Try.ntmps61
    go_wp2
    go_ret
    exact ⟨by first | rfl | (simp; done) | (simp [*]; done), by repeat (first | exact Drawn0.refl _ | apply Drawn0.step)⟩

/-! ### slices_IndexFunc_int64_int64: function 103: by hand -/
/-- A function value that decides of an element, whatever has been made since. -/
def Decides {α : Type} (g : Nat) (lb : Array Value) (enc : α → Value) (p : α → Bool) (w : World) : Prop :=
  ∀ (x : α) (W : World), Below w.heap.size w W → Calls Try.prog g (#[enc x] ++ lb) W fun e w' => e = .returned (.bool (p x)) ∧ Drawn0 W w'
set_option maxHeartbeats 2000000 in
theorem slices_IndexFunc_int64_int64.at_ (p : Int → Bool) (g : Nat) (lb : Array Value) (eg : ∀ args w, (callFunc g args).run Try.prog w = .ok (.enter g args) w) (A : Option Addr) (c : Nat) (xs : List Int) (w : World)
    (hp : Decides g lb (Value.int .i64) p w) (hr : Kd.C (Kd.int .i64) w A xs.length xs) :
    Calls Try.prog 103 #[.slice A xs.length c, .func (.func g) #[] lb] w fun e w' => e = .returned (.int .i64 (Lib.idxBy (fun _ y => p y) xs 0)) ∧ Drawn0 w w' := by
  have hm := Kd.C_max hr
  have hpAt : ∀ (x : Int) (q : Nat), Calls Try.prog g (#[.int .i64 x] ++ lb) (w.drewN q) fun e w' => e = .returned (.bool (p x)) ∧ Drawn0 (w.drewN q) w' := fun x q => hp x _ (pw_below_drewN (Below.refl _ w) q)
  have HR := Aside0.mk hr
  clear hp hr
  go_enter Try.func103, Try.ntmps103
  go_wp2
  go_loopg [5, 8] xs.length (fun gg _ s8 wr => ∃ kk q : Nat, kk ≤ xs.length ∧ xs.length - kk ≤ gg ∧ s8 = .int .i64 kk ∧ wr = w.drewN q ∧ Aside0 (∀ j, j < kk → p xs[j]! = false))
  case atStart => exact ⟨0, 0, Nat.zero_le _, by omega, rfl, rfl, ⟨fun j hj => absurd hj (Nat.not_lt_zero _)⟩⟩
  case round =>
    obtain ⟨kk, q, hkk, hg, rfl, rfl, A1⟩ := hrel
    by_cases hlt : kk < xs.length
    · have hltz : (kk : Int) < (xs.length : Int) := by omega
      obtain ⟨ad, e1, hcell⟩ := Kd.at_int (Kd.C_drewN HR.out q) (kk : Int) (by omega) hltz
      subst e1
      have B : Aside0 (rd xs (kk : Int) = xs[kk]!) := ⟨by unfold rd; simp [hlt]⟩
      generalize rd xs (kk : Int) = y at hcell B
      rw [Int.toNat_natCast] at hcell
      have hcall := hpAt y q
      clear hpAt
      cases hq : p y with
      | true =>
        rw [hq] at hcall
        have HQ := Aside0.mk hq
        clear hq
        go_wp2_with fail
        refine hcall.mono ?_
        clear hcall
        rintro e w' ⟨rfl, ⟨q', rfl⟩⟩
        go_wp2_with fail
        go_ret
        refine ⟨?_, ⟨_, rfl⟩⟩
        have := Lib.idxBy_hit (fun _ y => p y) xs xs.length kk 0 hlt (Nat.le_refl _) (by show p xs[kk]! = true; rw [← B.out]; exact HQ.out) A1.out
        rw [List.take_length] at this
        exact congrArg (fun z => Ending.returned (.int .i64 z)) this.symm
      | false =>
        rw [hq] at hcall
        have HQ := Aside0.mk hq
        clear hq
        go_wp2_with fail
        refine hcall.mono ?_
        clear hcall
        rintro e w' ⟨rfl, ⟨q', rfl⟩⟩
        go_wp2_with fail
        go_roundg (xs.length - (kk + 1))
        case measure => omega
        case rel =>
          refine ⟨kk + 1, _, by omega, by omega, by go_num, rfl, ⟨fun j hj => ?_⟩⟩
          by_cases e : j = kk
          · subst e
            rw [← B.out]; exact HQ.out
          · exact A1.out j (by omega)
    · have hltz : ¬ (kk : Int) < (xs.length : Int) := by omega
      have hk : kk = xs.length := by omega
      have H := Aside0.mk hk
      clear hk
      go_wp2
      go_ret
      refine ⟨?_, ⟨q, rfl⟩⟩
      have := Lib.idxBy_miss (fun _ y => p y) xs kk 0 A1.out
      rw [H.out, List.take_length] at this
      exact congrArg (fun z => Ending.returned (.int .i64 z)) this.symm


/-! ### slices_ContainsFunc_int64_int64: function 91: by hand -/
theorem slices_ContainsFunc_int64_int64.has (p : Int → Bool) (g : Nat) (lb : Array Value) (eg : ∀ args w, (callFunc g args).run Try.prog w = .ok (.enter g args) w) (A : Option Addr) (c : Nat) (xs : List Int) (w : World)
    (hp : Decides g lb (Value.int .i64) p w) (hr : Kd.C (Kd.int .i64) w A xs.length xs) :
    Calls Try.prog 91 #[.slice A xs.length c, .func (.func g) #[] lb] w fun e w' => e = .returned (.bool (xs.any p)) ∧ Drawn0 w w' := by
  rw [show xs.any p = decide (0 ≤ Lib.idxBy (fun _ y => p y) xs 0) from (Lib.idxBy_nonneg_iff (fun _ y => p y) xs 0).symm]
  have hcall := slices_IndexFunc_int64_int64.at_ p g lb eg A c xs w hp hr
  clear hp hr
  generalize Lib.idxBy (fun _ y => p y) xs 0 = r at hcall ⊢
  go_enter Try.func91, Try.ntmps91
  go_wp2_with fail
  refine hcall.mono ?_
  clear hcall
  rintro e w' ⟨rfl, ⟨q', rfl⟩⟩
  go_wp2_with fail
  go_ret
  exact ⟨rfl, ⟨_, rfl⟩⟩


/-! ### impl_allIn: function 56: by hand -/
/-- The closure of allIn: is the number outside? -/
theorem impl_allIn.closure (lo hi : Int) (b1 b2 : Nat) (w : World) (h1 : b1 < w.heap.size) (h2 : b2 < w.heap.size) (c1 : w.cell? ⟨b1, 0, none⟩ = some (.int .i64 lo)) (c2 : w.cell? ⟨b2, 0, none⟩ = some (.int .i64 hi)) :
    Decides 92 #[.pointer (some ⟨b1, 0, none⟩), .pointer (some ⟨b2, 0, none⟩)] (Value.int .i64) (fun x => !(decide (lo ≤ x) && decide (x ≤ hi))) w := by
  intro x W hb
  have d1 : W.cell? ⟨b1, 0, none⟩ = some (.int .i64 lo) := (hb.cell (p := ⟨b1, 0, none⟩) h1).trans c1
  have d2 : W.cell? ⟨b2, 0, none⟩ = some (.int .i64 hi) := (hb.cell (p := ⟨b2, 0, none⟩) h2).trans c2
  clear c1 c2 h1 h2 hb
  show Calls Try.prog 92 #[.int .i64 x, .pointer (some ⟨b1, 0, none⟩), .pointer (some ⟨b2, 0, none⟩)] W fun e w' => e = .returned (.bool (!(decide (lo ≤ x) && decide (x ≤ hi)))) ∧ Drawn0 W w'
  have hcall := impl_inRange.calls x lo hi (decide (lo ≤ x) && decide (x ≤ hi)) W (by unfold impl_inRange.f; by_cases h : lo ≤ x <;> simp [h])
  generalize (decide (lo ≤ x) && decide (x ≤ hi)) = r at hcall ⊢
  go_enter Try.func92, Try.ntmps92
  go_wp2_with fail
  refine hcall.mono ?_
  clear hcall
  rintro e w' ⟨rfl, ⟨q', rfl⟩⟩
  go_wp2_with fail
  go_ret
  exact ⟨rfl, ⟨_, rfl⟩⟩

def impl_allIn.f (l0 : List Int) (a1 : Int) (a2 : Int) : Option (Bool) := some (l0.all fun x => decide (a1 ≤ x) && decide (x ≤ a2))
theorem impl_allIn.calls (A0 : Option Addr) (c0 : Nat) (l0 : List Int) (a1 : Int) (a2 : Int) (r : Bool) (w : World) (hr0 : Kd.C (Kd.int .i64) w A0 l0.length l0) (hc0 : l0.length ≤ c0) (h : impl_allIn.f l0 a1 a2 = some r) :
    Calls Try.prog 56 #[.slice A0 l0.length c0, .int .i64 a1, .int .i64 a2] w fun e w' => e = .returned (.bool r) ∧ Below w.heap.size w w' := by
  obtain rfl := Option.some.inj h
  clear h
  have HR := Aside0.mk hr0
  clear hr0
  have eg : ∀ args w, (callFunc 92 args).run Try.prog w = .ok (.enter 92 args) w := enters_of Try.func92 (by kernel_rfl) rfl
  have e : (l0.all fun x => decide (a1 ≤ x) && decide (x ≤ a2)) = !(l0.any fun x => !(decide (a1 ≤ x) && decide (x ≤ a2))) := by rw [List.all_eq_not_any_not]
  rw [e]
  clear e
  have hb : Below w.heap.size w ((w.alloc (.cells #[.int .i64 a1] 2)).alloc (.cells #[.int .i64 a2] 2)) := ((Below.refl _ _).alloc (Nat.le_refl _) _).alloc (by simp) _
  have HB := Aside0.mk hb
  clear hb
  have hcall := slices_ContainsFunc_int64_int64.has (fun x => !(decide (a1 ≤ x) && decide (x ≤ a2))) 92 #[.pointer (some ⟨w.heap.size, 0, none⟩), .pointer (some ⟨w.heap.size + 1, 0, none⟩)] eg A0 c0 l0 ((w.alloc (.cells #[.int .i64 a1] 2)).alloc (.cells #[.int .i64 a2] 2))
    (impl_allIn.closure a1 a2 w.heap.size (w.heap.size + 1) _ (by simp; omega) (by simp) (by simp) (by simp)) (Kd.C_below HR.out HB.out)
  clear eg
  generalize (l0.any fun x => !(decide (a1 ≤ x) && decide (x ≤ a2))) = r at hcall ⊢
  go_enter Try.func56, Try.ntmps56
  go_wp2_with fail
  refine hcall.mono ?_
  clear hcall
  rintro e w' ⟨rfl, ⟨q', rfl⟩⟩
  go_wp2_with fail
  go_ret
  exact ⟨rfl, pw_below_drewN HB.out q'⟩


/-! ### impl_isList: function 74 -/
def impl_isList.f (l0 : List Int) : Option (Bool) := if (l0.length : Int) ≤ 80 then ((impl_allIn.f l0 (-1000000000) 1000000000).bind fun t152 => (some t152)) else (some false)
set_option maxHeartbeats 8000000 in
set_option maxRecDepth 100000 in
theorem impl_isList.calls (A0 : Option Addr) (c0 : Nat) (l0 : List Int) (r : Bool) (w : World) (hr0 : Kd.C (Kd.int .i64) w A0 l0.length l0) (hc0 : l0.length ≤ c0) (h : impl_isList.f l0 = some r) :
    Calls Try.prog 74 #[.slice A0 l0.length c0] w fun e w' => e = .returned (.bool r) ∧ Below w.heap.size w w' := by
  have HR0 := Aside0.mk hr0
  have HC0 := Aside0.mk hc0
  clear hr0 hc0
  have HB := Aside0.mk (Below.refl w.heap.size w)
  have H : (if (l0.length : Int) ≤ 80 then ((impl_allIn.f l0 (-1000000000) 1000000000).bind fun t152 => (some t152)) else (some false)) = some r := h
  clear h
  by_cases c2 : (l0.length : Int) ≤ 80
  · rw [if_pos c2] at H
    have c2b0 : decide ((l0.length : Int) ≤ 80) = true := decide_eq_true c2
    have c2b1 : decide (l0.length ≤ 80) = true := decide_eq_true (by omega)
    clear c2
    replace H := Option.bind_eq_some_iff.mp H
    obtain ⟨t152, A30, H⟩ := H
    replace H : (some t152) = some r := H
    have A3 := Aside0.mk A30
    clear A30
    obtain rfl := Option.some.inj H
    go_enter Try.func74, Try.ntmps74
    go_wp2_with (first | (go_at_call 56; (with_reducible refine (impl_allIn.calls _ _ l0 (-1000000000) 1000000000 t152 _ ?side1 ?side2 A3.out).mono ?_); (case side1 => repeat (first | exact HR0.out | (with_reducible refine Kd.C_alloc ?_ _) | (with_reducible refine Kd.C_drewN ?_ _) | (with_reducible refine Kd.C_drew ?_))); (case side2 => exact HC0.out); rintro e w4 ⟨rfl, hb⟩; have n0_ := Aside0.mk (below_step (by repeat (first | (with_reducible first | exact HB.out | apply below_alloc | apply pw_below_drewN | apply below_drew1) | exact HB.out)) hb); clear HB; have HB := n0_; clear n0_; (try clear hb); (try clear hb2); (try clear hk); (try clear hi)))
    go_ret
    exact ⟨by first | rfl | (simp [errW_none, errW_some] <;> rfl) | (simp [*, errW_none, errW_some] <;> rfl), by repeat (first | (with_reducible first | exact HB.out | apply below_alloc | apply pw_below_drewN | apply below_drew1) | exact HB.out)⟩
  · rw [if_neg c2] at H
    have c2b0 : decide ((l0.length : Int) ≤ 80) = false := decide_eq_false c2
    have c2b1 : decide (l0.length ≤ 80) = false := decide_eq_false (by omega)
    clear c2
    obtain rfl := Option.some.inj H
    go_enter Try.func74, Try.ntmps74
    go_wp2
    go_ret
    exact ⟨by first | rfl | (simp [errW_none, errW_some] <;> rfl) | (simp [*, errW_none, errW_some] <;> rfl), by repeat (first | (with_reducible first | exact HB.out | apply below_alloc | apply pw_below_drewN | apply below_drew1) | exact HB.out)⟩

end Go.Proofs.Ytbdedpodbnhkfaa.PFnExactRunsOf
