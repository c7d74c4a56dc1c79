-- WRITTEN BY wip/xprint.py out of the translation, with contracts of mine put in: Lean checks it.
import Derived.Test.YtbdedpodbnhkfaaPFnExactSeedPolicyx0
import Derived.Test.YtbdedpodbnhkfaaPFnExactSeedPolicyx1
namespace Go.Proofs.Ytbdedpodbnhkfaa.PFnExactSeedPolicy
open Go.RowKit Go.Proofs.YtbdedpodbnhkfaaW.PrintWords Go.Proofs.YtbdedpodbnhkfaaW.PrintLast Go.Proofs.YtbdedpodbnhkfaaW.PrintMore
attribute [local go_sem] max2_int min2_int max_two min_two max_three min_three max_four min_four   -- for this text's walks alone
set_option linter.unusedVariables false
set_option linter.unusedSimpArgs false

/-! ### impl_seedOrder: function 62 -/
def impl_seedOrder.l0 : Nat → Int → List Int → Int → Option (List Int × Int)
  | 0, _, _, _ => none
  | k + 1, x0, x6, x7 => if x7 > 0 then ((impl_nextSeed.f x0).bind fun t147 => (if (wrap64 (x7 + 1)) = 0 then (none) else (if 0 ≤ (Int.tmod t147 (wrap64 (x7 + 1))) then (if (Int.tmod t147 (wrap64 (x7 + 1))) < (x6.length : Int) then (if 0 ≤ x7 then (if x7 < (x6.length : Int) then (impl_seedOrder.l0 k t147 ((x6.set (x7 : Int).toNat (rd x6 (Int.tmod t147 (wrap64 (x7 + 1))))).set ((Int.tmod t147 (wrap64 (x7 + 1))) : Int).toNat (rd x6 x7)) (wrap64 (x7 - 1))) else (none)) else (none)) else (none)) else (none)))) else (some (x6, x0))
def impl_seedOrder.f (k : Nat) (a0 : Int) (a1 : Int) : Option (List Int × Int) := (impl_ascending.f k a1).bind fun t144 => (impl_seedOrder.l0 k a0 t144 (wrap64 (a1 - 1)))
theorem impl_seedOrder.mono_l : ∀ k, (∀ y0 y1 y2, LeO (impl_seedOrder.l0 k y0 y1 y2) (impl_seedOrder.l0 (k + 1) y0 y1 y2))
  | 0 => fun _ _ _ r h => by simp [impl_seedOrder.l0] at h
  | k + 1 => by
    have ih0 := impl_seedOrder.mono_l k
    · intro y0 y1 y2
      unfold impl_seedOrder.l0
      repeat' first
      | (with_reducible exact ih0 _ _ _)
      | (with_reducible exact impl_ascending.mono _ _)
      | (with_reducible exact LeO.refl _)
      | (with_reducible exact LeO.none _)
      | (with_reducible refine LeO.ite ?_ ?_)
      | (with_reducible refine LeO.bind ?_ (fun _ => ?_))
      | exact ih0 _ _ _
      | exact impl_ascending.mono _ _
      | exact LeO.none _
      | refine LeO.ite ?_ ?_
      | refine LeO.bind ?_ (fun _ => ?_)
theorem impl_seedOrder.mono : ∀ a0 a1 k, LeO (impl_seedOrder.f k a0 a1) (impl_seedOrder.f (k + 1) a0 a1) := by
  intro a0 a1 k
  have ih0 := impl_seedOrder.mono_l k
  unfold impl_seedOrder.f
  repeat' first
      | (with_reducible exact ih0 _ _ _)
      | (with_reducible exact impl_ascending.mono _ _)
      | (with_reducible exact LeO.refl _)
      | (with_reducible exact LeO.none _)
      | (with_reducible refine LeO.ite ?_ ?_)
      | (with_reducible refine LeO.bind ?_ (fun _ => ?_))
      | exact ih0 _ _ _
      | exact impl_ascending.mono _ _
      | exact LeO.none _
      | refine LeO.ite ?_ ?_
      | refine LeO.bind ?_ (fun _ => ?_)
def impl_seedOrder.T7 : Bool × List (List Nat × List Nat) := (true, [([], []), ([], []), ([], []), ([], []), ([], []), ([], []), ([4, 5], [4, 5]), ([6], [6]), ([], []), ([], []), ([8, 9], [8, 9]), ([10], [10]), ([0, 1, 0, 1, 4, 5, 6, 7, 11], [0, 1]), ([12, 7, 0, 1, 4, 5, 6, 7, 11], [7, 12]), ([2, 3, 0, 1, 2, 3, 4, 5, 6, 7, 8, 9, 10, 11, 12, 13], [2, 3]), ([14, 11, 13, 0, 1, 2, 3, 4, 5, 6, 7, 8, 9, 10, 11, 12, 13], [11, 14])])
def impl_seedOrder.B7 : List Nat := [0, 0, 0, 0, 0, 0, 48, 112, 0, 0, 768, 1792, 4083, 8179, 16383, 32767]
theorem impl_seedOrder.tab7 : rtab .any (opsOf Try.f62 7) = impl_seedOrder.T7 := by kernel_rfl
theorem impl_seedOrder.bits7 : waitsOk impl_seedOrder.T7.2 impl_seedOrder.B7 = true := by kernel_rfl
set_option maxHeartbeats 8000000 in
set_option maxRecDepth 100000 in
theorem impl_seedOrder.calls (k : Nat) (a0 : Int) (a1 : Int) (r1 : List Int) (r2 : Int) (w : World) (h : impl_seedOrder.f k a0 a1 = some (r1, r2)) :
    Calls Try.prog 62 #[.int .i64 a0, .int .i64 a1] w fun e w' => ∃ v0_ : Value, e = .returned (.tuple #[v0_, .int .i64 r2]) ∧ Kd.R (Kd.int .i64) 2 w' w.heap.size (fun _ => True) v0_ r1 ∧ Below w.heap.size w w' := by
  have HB := Aside0.mk (Below.refl w.heap.size w)
  have H : ((impl_ascending.f k a1).bind fun t144 => (impl_seedOrder.l0 k a0 t144 (wrap64 (a1 - 1)))) = some (r1, r2) := h
  clear h
  replace H := Option.bind_eq_some_iff.mp H
  obtain ⟨t144, A30, H⟩ := H
  replace H : (impl_seedOrder.l0 k a0 t144 (wrap64 (a1 - 1))) = some (r1, r2) := H
  have A3 := Aside0.mk A30
  clear A30
  have H' := Aside0.mk H
  clear H
  go_enter Try.func62, Try.ntmps62
  go_wp2_with (first | ((with_reducible refine gate_callee (f := 94) rfl ?_); refine goesL_ (some 10) rfl rfl Try.func94 (by kernel_rfl) rfl #[.int .i64 a1] rfl (by (try simp only [List.map_toArray, List.map_cons, List.map_nil]); first | done | rfl | (simp only [List.length_drop, List.length_take]; rfl)) ?_; (with_reducible refine (impl_ascending.calls k a1 t144 _ A3.out).mono ?_); rintro e w4 ⟨v145, rfl, ho0, hb⟩; refine ⟨_, rfl, ?_⟩; have n0_ := Aside0.mk (Kd.R_lower ho0 (below_size (by repeat (first | (with_reducible first | exact HB.out | apply below_alloc | apply pw_below_drewN | apply below_drew1) | exact HB.out)))); have n1_ := Aside0.mk (below_step (by repeat (first | (with_reducible first | exact HB.out | apply below_alloc | apply pw_below_drewN | apply below_drew1) | exact HB.out)) hb); clear HB; have HO146 := n0_; have HB := n1_; clear n0_ n1_; (try clear hb); (try clear hb2); (try clear hk); (try clear hi); (try clear ho0)))
  go_loopg [0, 7] k (fun kq v0 v7 w' => ∃ (x0_1 : Int) (x6_1 : List Int) (x7_1 : Int), v0 = .int .i64 x0_1 ∧ v7 = .int .i64 x7_1 ∧ Aside0 (impl_seedOrder.l0 kq x0_1 x6_1 x7_1 = some (r1, r2)) ∧ Aside0 (kq ≤ k) ∧ Aside0 (Kd.R (Kd.int .i64) 2 w' w.heap.size (fun _ => True) v145 x6_1) ∧ Aside0 (Below w.heap.size w w'))
  case atStart => exact ⟨(a0), (t144), (wrap64 (a1 - 1)), (by first | rfl | (simp; done) | (simp [*]; done)), (by first | rfl | (simp; done) | (simp [*]; done)), H', ⟨Nat.le_refl _⟩, ⟨by (with_reducible repeat (first | apply Kd.R_alloc | apply Kd.R_drewN | apply Kd.R_drew)); exact HO146.out⟩, ⟨by repeat (first | (with_reducible first | exact HB.out | apply below_alloc | apply pw_below_drewN | apply below_drew1) | exact HB.out)⟩⟩
  case round =>
    clear H'
    try clear p2
    obtain ⟨x0_1, x6_1, x7_1, rfl, rfl, HA, HK1, HO_6, HB⟩ := hrel
    cases gk with
    | zero => exact absurd HA.out (by simp [impl_seedOrder.l0])
    | succ k1 =>
      have H := HA.out
      clear HA
      simp only [impl_seedOrder.l0] at H
      by_cases c5 : x7_1 > 0
      · rw [if_pos c5] at H
        have c5b0 : decide (0 < x7_1) = true := decide_eq_true c5
        clear c5
        replace H := Option.bind_eq_some_iff.mp H
        obtain ⟨t147, A60, H⟩ := H
        replace H : (if (wrap64 (x7_1 + 1)) = 0 then (none) else (if 0 ≤ (Int.tmod t147 (wrap64 (x7_1 + 1))) then (if (Int.tmod t147 (wrap64 (x7_1 + 1))) < (x6_1.length : Int) then (if 0 ≤ x7_1 then (if x7_1 < (x6_1.length : Int) then (impl_seedOrder.l0 k1 t147 ((x6_1.set (x7_1 : Int).toNat (rd x6_1 (Int.tmod t147 (wrap64 (x7_1 + 1))))).set ((Int.tmod t147 (wrap64 (x7_1 + 1))) : Int).toNat (rd x6_1 x7_1)) (wrap64 (x7_1 - 1))) else (none)) else (none)) else (none)) else (none))) = some (r1, r2) := H
        have A6 := Aside0.mk A60
        clear A60
        by_cases c7 : (wrap64 (x7_1 + 1)) = 0
        · rw [if_pos c7] at H
          exact absurd H (by simp)
        · rw [if_neg c7] at H
          have c7b0 : ((wrap64 (x7_1 + 1)) == 0) = false := beq_eq_false_iff_ne.mpr c7
          have c7b1 : ((wrap64 (x7_1 + 1)) != 0) = true := bne_iff_ne.mpr c7
          obtain ⟨ji8, hji8⟩ : ∃ j_ : Int, (Int.tmod t147 (wrap64 (x7_1 + 1))) = j_ := ⟨_, rfl⟩
          replace H : (if 0 ≤ (ji8) then (if (ji8) < (x6_1.length : Int) then (if 0 ≤ x7_1 then (if x7_1 < (x6_1.length : Int) then (impl_seedOrder.l0 k1 t147 ((x6_1.set (x7_1 : Int).toNat (rd x6_1 (ji8))).set ((ji8) : Int).toNat (rd x6_1 x7_1)) (wrap64 (x7_1 - 1))) else (none)) else (none)) else (none)) else (none)) = some (r1, r2) := by first | (rw [hji8] at H; exact H) | (simp only [hji8] at H ⊢; exact H)
          (try rw [hji8] at A6)
          by_cases c9 : 0 ≤ (ji8)
          · rw [if_pos c9] at H
            have c9b0 : decide (0 ≤ (ji8)) = true := decide_eq_true c9
            clear c9
            by_cases c10 : (ji8) < (x6_1.length : Int)
            · rw [if_pos c10] at H
              have c10b0 : decide ((ji8) < (x6_1.length : Int)) = true := decide_eq_true c10
              clear c10
              by_cases c11 : 0 ≤ x7_1
              · rw [if_pos c11] at H
                have c11b0 : decide (0 ≤ x7_1) = true := decide_eq_true c11
                clear c11
                by_cases c12 : x7_1 < (x6_1.length : Int)
                · rw [if_pos c12] at H
                  have c12b0 : decide (x7_1 < (x6_1.length : Int)) = true := decide_eq_true c12
                  clear c12
                  obtain ⟨y150, hy150⟩ : ∃ y_ : List Int, y_ = (x6_1.set (x7_1 : Int).toNat (rd x6_1 (ji8))) := ⟨_, rfl⟩
                  replace H : (impl_seedOrder.l0 k1 t147 (y150.set ((ji8) : Int).toNat (rd x6_1 x7_1)) (wrap64 (x7_1 - 1))) = some (r1, r2) := by first | (rw [hy150]; with_reducible exact H) | (have H2_ := (Option.bind_some _ _).symm.trans H; rw [hy150]; with_reducible exact H2_) | (have H2_ := (Option.bind_some _ _).symm.trans H; with_reducible exact H2_) | with_reducible exact H | (rw [hy150]; exact H) | exact H
                  have Ny150 := Aside0.mk hy150
                  clear hy150
                  obtain ⟨y151, hy151⟩ : ∃ y_ : List Int, y_ = (y150.set ((ji8) : Int).toNat (rd x6_1 x7_1)) := ⟨_, rfl⟩
                  replace H : (impl_seedOrder.l0 k1 t147 y151 (wrap64 (x7_1 - 1))) = some (r1, r2) := by first | (rw [hy151]; with_reducible exact H) | (have H2_ := (Option.bind_some _ _).symm.trans H; rw [hy151]; with_reducible exact H2_) | (have H2_ := (Option.bind_some _ _).symm.trans H; with_reducible exact H2_) | with_reducible exact H | (rw [hy151]; exact H) | exact H
                  have Ny151 := Aside0.mk hy151
                  clear hy151
                  have H' := Aside0.mk H
                  clear H
                  try go_wp2_with (first | ((with_reducible refine gate_callee (f := 95) rfl ?_); refine goesL_ (some 18) rfl rfl Try.func95 (by kernel_rfl) rfl #[.int .i64 x0_1] rfl (by (try simp only [List.map_toArray, List.map_cons, List.map_nil]); first | done | rfl | (simp only [List.length_drop, List.length_take]; rfl)) ?_; (with_reducible refine (impl_nextSeed.calls x0_1 t147 _ A6.out).mono ?_); rintro e w' ⟨rfl, ⟨nd, rfl⟩⟩; refine ⟨_, rfl, ?_⟩; (try (rw [drewN_self wr]; generalize hq_ : World.drewN wr _ = wr; have n0_ : Aside0 (Kd.R (Kd.int .i64) 2 wr w.heap.size (fun _ => True) v145 x6_1) := ⟨by rw [← hq_]; exact (by (with_reducible repeat (first | apply Kd.R_alloc | apply Kd.R_drewN | apply Kd.R_drew)); exact HO_6.out)⟩; have n1_ : Aside0 (Below w.heap.size w wr) := ⟨by rw [← hq_]; exact (by repeat (first | (with_reducible first | exact HB.out | apply below_alloc | apply pw_below_drewN | apply below_drew1) | exact HB.out))⟩; clear HO_6 HB hq_; have HO_6 := n0_; have HB := n1_; clear n0_ n1_))))
                  have n0_ := Aside0.mk (Kd.R_drew HO_6.out)
                  have n1_ := Aside0.mk (below_drew1 HB.out)
                  clear HO_6
                  clear HB
                  have HO_6 := n0_
                  have HB := n1_
                  clear n0_ n1_
                  obtain ⟨Ao16, co16, eo16⟩ := Kd.R_slice HO_6.out
                  (first | subst eo16 | (injection eo16 with f1_ f2_ f3_; have f4_ := f1_.symm; have f5_ := f3_.symm; clear f1_ f2_ f3_; subst f4_; subst f5_))
                  have p148 : 0 ≤ ((ji8) : Int) := of_decide_eq_true (by first | (with_reducible assumption) | assumption)
                  have q148 : (ji8) < (x6_1.length : Int) := of_decide_eq_true (by first | (with_reducible assumption) | assumption)
                  obtain ⟨ad148, e148, hx148_0⟩ := Kd.at_int (Kd.R_reads' HO_6.out).2.2 (ji8) p148 q148
                  cases e148
                  replace p148 := eq_true p148
                  replace q148 := eq_true q148
                  have p149 : 0 ≤ (x7_1 : Int) := of_decide_eq_true (by first | (with_reducible assumption) | assumption)
                  have q149 : x7_1 < (x6_1.length : Int) := of_decide_eq_true (by first | (with_reducible assumption) | assumption)
                  obtain ⟨ad149, e149, hx149_0⟩ := Kd.at_int (Kd.R_reads' HO_6.out).2.2 x7_1 p149 q149
                  obtain rfl : ad148 = ad149 := (by injection e149)
                  replace p149 := eq_true p149
                  replace q149 := eq_true q149
                  have p13 : 0 ≤ (x7_1 : Int) := of_decide_eq_true (by first | (with_reducible assumption) | assumption)
                  have q13 : (x7_1 : Int) < ((x6_1.length : Int) : Int) := of_decide_eq_true (by first | (with_reducible assumption) | assumption)
                  obtain ⟨go13, co13, eo13, gb13, gl13, cl13, HG13⟩ := Kd.R_form HO_6.out (by omega)
                  (first | cases eo13 | (injection eo13 with ea_ en_ ec_; (first | subst ea_ | (injection ea_ with ea_; subst ea_)); subst ec_; clear en_))
                  have GB13 := Aside0.mk gb13
                  have GG13 := Aside0.mk HG13
                  clear gb13 gl13 HG13
                  (first | simp only [add_plain] at hx148_0 | skip)
                  (first | simp only [add_plain] at hx149_0 | skip)
                  obtain ⟨hx13_0, hf13_0⟩ := Kd.R_celln 0 HO_6.out (x7_1 : Int) p13 q13
                  replace p13 := eq_true p13
                  replace q13 := eq_true q13
                  have HP17 := Kd.R_putn HO_6.out (x7_1 : Int) (rd x6_1 (ji8))
                  rw [← Ny150.out] at HP17
                  have HQ17 := Aside0.mk HP17
                  clear HP17
                  have p14 : 0 ≤ ((ji8) : Int) := of_decide_eq_true (by first | (with_reducible assumption) | assumption)
                  have q14 : ((ji8) : Int) < ((x6_1.length : Int) : Int) := of_decide_eq_true (by first | (with_reducible assumption) | assumption)
                  obtain ⟨hx14_0, hf14_0⟩ := Kd.R_celln 0 HQ17.out ((ji8) : Int) p14 q14
                  replace p14 := eq_true p14
                  replace q14 := eq_true q14
                  have HP18 := Kd.R_putn HQ17.out ((ji8) : Int) (rd x6_1 x7_1)
                  rw [← Ny151.out] at HP18
                  have HQ18 := Aside0.mk HP18
                  clear HP18
                  refine start_ (n := 16) (S := fun w' => w'.cell? ⟨go13, ((ji8)).toNat, none⟩ = some (.int .i64 (rd x6_1 (ji8))) ∧ w'.cell? ⟨go13, (x7_1).toNat, none⟩ = some (.int .i64 (rd x6_1 x7_1))) (ds := [13, 15]) #[false, false, false, false, false, false, false, false, false, false, false, false, false, false, false, false] (by kernel_rfl) rfl rfl ⟨hx148_0, hx149_0⟩ (fun hHeld => ?_); refine with_tabW impl_seedOrder.tab7 impl_seedOrder.bits7 (fun HT_ HW_ => ?_)
                  generalize wr.drew = w15 at HO_6 HB GG13 HQ17 HQ18 hf13_0 hf14_0 hx13_0 hx148_0 hx149_0 hx14_0 hHeld ⊢
                  refine pure_ (i := 0) (N := some 23) (v := ?_) (a' := ?_) #[true, false, false, false, false, false, false, false, false, false, false, false, false, false, false, false] rfl rfl (any_of HT_.out (by kernel_rfl)) (fun _ _ _ h => h) (Or.inl ⟨by rfl, ?_⟩) ?_ ?_
                  rotate_left
                  · intro w'
                    go_simp
                    with_reducible rfl
                  rotate_left
                  · simp only [Act.put, List.setIfInBounds_toArray, List.set_cons_zero, List.set_cons_succ, i64_w, i32_w]
                    rfl
                  refine pure_ (i := 1) (N := some 24) (v := ?_) (a' := ?_) #[true, true, false, false, false, false, false, false, false, false, false, false, false, false, false, false] rfl rfl (any_of HT_.out (by kernel_rfl)) (fun _ _ _ h => h) (Or.inl ⟨by rfl, ?_⟩) ?_ ?_
                  rotate_left
                  · intro w'
                    go_simp
                    with_reducible rfl
                  rotate_left
                  · simp only [Act.put, List.setIfInBounds_toArray, List.set_cons_zero, List.set_cons_succ, i64_w, i32_w]
                    rfl
                  refine pure_ (i := 2) (N := some 25) (v := ?_) (a' := ?_) #[true, true, true, false, false, false, false, false, false, false, false, false, false, false, false, false] rfl rfl (any_of HT_.out (by kernel_rfl)) (fun _ _ _ h => h) (Or.inl ⟨by rfl, ?_⟩) ?_ ?_
                  rotate_left
                  · intro w'
                    go_simp
                    with_reducible rfl
                  rotate_left
                  · simp only [Act.put, List.setIfInBounds_toArray, List.set_cons_zero, List.set_cons_succ, i64_w, i32_w]
                    rfl
                  refine pure_ (i := 3) (N := some 26) (v := ?_) (a' := ?_) #[true, true, true, true, false, false, false, false, false, false, false, false, false, false, false, false] rfl rfl (any_of HT_.out (by kernel_rfl)) (fun _ _ _ h => h) (Or.inl ⟨by rfl, ?_⟩) ?_ ?_
                  rotate_left
                  · intro w'
                    go_simp
                    with_reducible rfl
                  rotate_left
                  · simp only [Act.put, List.setIfInBounds_toArray, List.set_cons_zero, List.set_cons_succ, i64_w, i32_w]
                    rfl
                  refine pure_ (i := 4) (N := some 27) (v := ?_) (a' := ?_) #[true, true, true, true, true, false, false, false, false, false, false, false, false, false, false, false] rfl rfl (any_of HT_.out (by kernel_rfl)) (fun _ _ _ h => h) (Or.inl ⟨by rfl, ?_⟩) ?_ ?_
                  rotate_left
                  · intro w'
                    go_simp
                    with_reducible rfl
                  rotate_left
                  · simp only [Act.put, List.setIfInBounds_toArray, List.set_cons_zero, List.set_cons_succ, i64_w, i32_w]
                    rfl
                  refine pure_ (i := 5) (N := some 28) (v := ?_) (a' := ?_) #[true, true, true, true, true, true, false, false, false, false, false, false, false, false, false, false] rfl rfl (any_of HT_.out (by kernel_rfl)) (fun _ _ _ h => h) (Or.inl ⟨by rfl, ?_⟩) ?_ ?_
                  rotate_left
                  · intro w'
                    go_simp
                    with_reducible rfl
                  rotate_left
                  · simp only [Act.put, List.setIfInBounds_toArray, List.set_cons_zero, List.set_cons_succ, i64_w, i32_w]
                    rfl
                  refine pure_ (i := 6) (N := some 29) (v := ?_) (a' := ?_) #[true, true, true, true, true, true, true, false, false, false, false, false, false, false, false, false] rfl rfl (any_of HT_.out (by kernel_rfl)) (fun _ _ _ h => h) (Or.inl ⟨by rfl, ?_⟩) ?_ ?_
                  rotate_left
                  · intro w'
                    go_simp
                    with_reducible rfl
                  rotate_left
                  · simp only [Act.put, List.setIfInBounds_toArray, List.set_cons_zero, List.set_cons_succ, i64_w, i32_w]
                    rfl
                  refine pure_ (i := 8) (N := some 31) (v := ?_) (a' := ?_) #[true, true, true, true, true, true, true, false, true, false, false, false, false, false, false, false] rfl rfl (any_of HT_.out (by kernel_rfl)) (fun _ _ _ h => h) (Or.inl ⟨by rfl, ?_⟩) ?_ ?_
                  rotate_left
                  · intro w'
                    go_simp
                    with_reducible rfl
                  rotate_left
                  · simp only [Act.put, List.setIfInBounds_toArray, List.set_cons_zero, List.set_cons_succ, i64_w, i32_w]
                    rfl
                  refine pure_ (i := 9) (N := some 32) (v := ?_) (a' := ?_) #[true, true, true, true, true, true, true, false, true, true, false, false, false, false, false, false] rfl rfl (any_of HT_.out (by kernel_rfl)) (fun _ _ _ h => h) (Or.inl ⟨by rfl, ?_⟩) ?_ ?_
                  rotate_left
                  · intro w'
                    go_simp
                    with_reducible rfl
                  rotate_left
                  · simp only [Act.put, List.setIfInBounds_toArray, List.set_cons_zero, List.set_cons_succ, i64_w, i32_w]
                    rfl
                  refine pure_ (i := 10) (N := some 33) (v := ?_) (a' := ?_) #[true, true, true, true, true, true, true, false, true, true, true, false, false, false, false, false] rfl rfl (any_of HT_.out (by kernel_rfl)) (fun _ _ _ h => h) (Or.inl ⟨by rfl, ?_⟩) ?_ ?_
                  rotate_left
                  · intro w'
                    go_simp
                    with_reducible rfl
                  rotate_left
                  · simp only [Act.put, List.setIfInBounds_toArray, List.set_cons_zero, List.set_cons_succ, i64_w, i32_w]
                    rfl
                  refine take_ (i := 7) (N := some 30) (v := ?_) (a' := ?_) #[true, true, true, true, true, true, true, true, true, true, true, false, false, false, false, false] rfl rfl (take_ofW HT_.out HW_.out (by kernel_rfl)) (fun _ _ _ h => h) (Or.inl ⟨by rfl, ?_⟩) hHeld ?_ ?_
                  rotate_left
                  · rintro w' ⟨s0, s1⟩
                    go_simp
                    with_reducible rfl
                  rotate_left
                  · simp only [Act.put, List.setIfInBounds_toArray, List.set_cons_zero, List.set_cons_succ, i64_w, i32_w]
                    rfl
                  refine take_ (i := 11) (N := some 34) (v := ?_) (a' := ?_) #[true, true, true, true, true, true, true, true, true, true, true, true, false, false, false, false] rfl rfl (take_ofW HT_.out HW_.out (by kernel_rfl)) (fun _ _ _ h => h) (Or.inl ⟨by rfl, ?_⟩) hHeld ?_ ?_
                  rotate_left
                  · rintro w' ⟨s0, s1⟩
                    go_simp
                    with_reducible rfl
                  rotate_left
                  · simp only [Act.put, List.setIfInBounds_toArray, List.set_cons_zero, List.set_cons_succ, i64_w, i32_w]
                    rfl
                  refine pure_ (i := 12) (N := some 35) (v := ?_) (a' := ?_) #[true, true, true, true, true, true, true, true, true, true, true, true, true, false, false, false] rfl rfl (any_of HT_.out (by kernel_rfl)) (fun _ _ _ h => h) (Or.inl ⟨by rfl, ?_⟩) ?_ ?_
                  rotate_left
                  · intro w'
                    go_simp
                    with_reducible rfl
                  rotate_left
                  · simp only [Act.put, List.setIfInBounds_toArray, List.set_cons_zero, List.set_cons_succ, i64_w, i32_w]
                    rfl
                  refine last_ (i := 13) (N := none) #[true, true, true, true, true, true, true, true, true, true, true, true, true, true, false, false] rfl rfl (one_of HT_.out (by kernel_rfl)) (by decide) (fun K hK => ?_)
                  refine skip_ (w1 := ?_) (by rfl) rfl ?_ ?_
                  rotate_left
                  · go_simp
                    rfl
                  refine hK.out _ _ ?_
                  clear hK K
                  refine pure_ (i := 14) (N := some 36) (v := ?_) (a' := ?_) #[true, true, true, true, true, true, true, true, true, true, true, true, true, true, true, false] rfl rfl (any_of HT_.out (by kernel_rfl)) (fun _ _ _ h => h) (Or.inl ⟨by rfl, ?_⟩) ?_ ?_
                  rotate_left
                  · intro w'
                    go_simp
                    with_reducible rfl
                  rotate_left
                  · simp only [Act.put, List.setIfInBounds_toArray, List.set_cons_zero, List.set_cons_succ, i64_w, i32_w]
                    rfl
                  refine last_ (i := 15) (N := none) #[true, true, true, true, true, true, true, true, true, true, true, true, true, true, true, true] rfl rfl (one_of HT_.out (by kernel_rfl)) (by decide) (fun K hK => ?_)
                  refine skip_ (w1 := ?_) (by rfl) rfl ?_ ?_
                  rotate_left
                  · go_simp
                    rfl
                  refine hK.out _ _ ?_
                  clear hK K
                  refine done_ (done_of HT_.out (by kernel_rfl)) ?_
                  try go_wp2
                  go_roundg k1
                  case measure => have := HK1.out; omega
                  case rel => exact ⟨(t147), (y151), (wrap64 (x7_1 - 1)), (by first | rfl | (simp; done) | (simp [*]; done)), (by first | rfl | (simp; done) | (simp [*]; done)), H', ⟨by have := HK1.out; omega⟩, ⟨by (with_reducible repeat (first | apply Kd.R_alloc | apply Kd.R_drewN | apply Kd.R_drew)); exact HQ18.out⟩, ⟨by repeat (first | (with_reducible first | exact HB.out | apply below_alloc | apply pw_below_drewN | apply below_drew1 | refine below_set ?_ GB13.out | refine below_set ?_ GB13.out) | exact HB.out)⟩⟩
                · rw [if_neg c12] at H
                  exact absurd H (by simp)
              · rw [if_neg c11] at H
                exact absurd H (by simp)
            · rw [if_neg c10] at H
              exact absurd H (by simp)
          · rw [if_neg c9] at H
            exact absurd H (by simp)
      · rw [if_neg c5] at H
        have c5b0 : decide (0 < x7_1) = false := decide_eq_false c5
        clear c5
        simp only [Option.some.injEq, Prod.mk.injEq] at H
        obtain ⟨rfl, rfl⟩ := H
        go_wp2
        go_ret2
        exact ⟨_, by first | rfl | (simp [errW_none, errW_some] <;> rfl) | (simp [*, errW_none, errW_some] <;> rfl), by (with_reducible repeat (first | apply Kd.R_alloc | apply Kd.R_drewN | apply Kd.R_drew)); exact HO_6.out, by repeat (first | (with_reducible first | exact HB.out | apply below_alloc | apply pw_below_drewN | apply below_drew1) | exact HB.out)⟩

/-! ### impl_isWays: function 102 -/
def impl_isWays.f (a0 : Int) : Option (Bool) := (impl_inRange.f a0 1 6).bind fun t152 => (some t152)
set_option maxHeartbeats 8000000 in
set_option maxRecDepth 100000 in
theorem impl_isWays.calls (a0 : Int) (r : Bool) (w : World) (h : impl_isWays.f a0 = some r) :
    Calls Try.prog 102 #[.int .i64 a0] w fun e w' => e = .returned (.bool r) ∧ Drawn0 w w' := by
  have H : ((impl_inRange.f a0 1 6).bind fun t152 => (some t152)) = some r := h
  clear h
  replace H := Option.bind_eq_some_iff.mp H
  obtain ⟨t152, A20, H⟩ := H
  replace H : (some t152) = some r := H
  have A2 := Aside0.mk A20
  clear A20
  obtain rfl := Option.some.inj H
  go_enter Try.func102, Try.ntmps102
  go_wp2_with (first | ((with_reducible refine gate_callee (f := 61) rfl ?_); refine goesL_ (some 4) rfl rfl Try.func61 (by kernel_rfl) rfl #[.int .i64 a0, .int .i64 1, .int .i64 6] rfl (by (try simp only [List.map_toArray, List.map_cons, List.map_nil]); first | done | rfl | (simp only [List.length_drop, List.length_take]; rfl)) ?_; (with_reducible refine (impl_inRange.calls a0 1 6 t152 _ A2.out).mono ?_); rintro e w' ⟨rfl, ⟨nd, rfl⟩⟩; refine ⟨_, rfl, ?_⟩))
  go_ret
  exact ⟨by first | rfl | (simp; done) | (simp [*]; done), by repeat (first | exact Drawn0.refl _ | apply Drawn0.step)⟩

/-! ### impl_policyOf: function 88: by hand -/
theorem isWays_at (a : Int) (W : World) : Calls Try.prog 102 #[.int .i64 a] W fun e w' => e = .returned (.bool (decide (1 ≤ a) && decide (a ≤ 6))) ∧ Drawn0 W w' :=
  impl_isWays.calls a _ W (by unfold impl_isWays.f impl_inRange.f; by_cases h : 1 ≤ a <;> simp [h])
set_option maxHeartbeats 8000000 in
set_option maxRecDepth 100000 in
theorem policyOf_bad (a : Int) (h : ¬ (1 ≤ a ∧ a ≤ 6)) (f1 f2 : Value) (w : World) :
    Calls Try.prog 88 #[.int .i64 a, f1, f2] w fun e w' => e = .returned (.tuple #[.agg #[.slice none 0 0, .slice none 0 0], .bool false]) ∧ Below w.heap.size w w' := by
  have hu25 := Try.underlying56
  have hc := isWays_at a (w.alloc (.cells #[.slice none 0 0, .slice none 0 0] 56))
  rw [show (decide (1 ≤ a) && decide (a ≤ 6)) = false by by_cases h1 : 1 ≤ a <;> by_cases h2 : a ≤ 6 <;> simp_all] at hc
  clear h
  go_enter Try.func88, Try.ntmps88
  go_wp2_with fail
  refine hc.mono ?_
  clear hc
  rintro e w1 ⟨rfl, hd⟩
  have b1 := Drawn0.below hd
  have BK := blk_below (g := w.heap.size) (o := .cells #[.slice none 0 0, .slice none 0 0] 56 (0, 0)) (w := w.alloc (.cells #[.slice none 0 0, .slice none 0 0] 56)) (by show (w.heap.push _)[w.heap.size]? = _; exact Array.getElem?_push_size) b1
  have B1 := Aside0.mk (below_step (below_alloc (Below.refl _ w) (.cells #[.slice none 0 0, .slice none 0 0] 56)) b1)
  have hr0 : w1.cell? ⟨w.heap.size, 0, none⟩ = some (.slice none 0 0) := (blk_cell BK 0).trans rfl
  have hr1 : w1.cell? ⟨w.heap.size, 1, none⟩ = some (.slice none 0 0) := (blk_cell BK 1).trans rfl
  have fr0 := blk_frozen BK 0
  have fr1 := blk_frozen BK 1
  have BKA := Aside0.mk BK
  clear hd b1 BK
  go_wp2
  clear hr0 hr1 fr0 fr1
  have b2 := blk_put (cs := #[.slice none 0 0, .slice none 0 0]) BKA.out 0 (.slice none 0 0) rfl
  have b3 := blk_put (cs := #[.slice none 0 0, .slice none 0 0]) b2 1 (.slice none 0 0) rfl
  first
  | (refine bodyPost_ret (results_ct rfl _ _ w.heap.size 56 #[.slice none 0 0, .slice none 0 0] (0, 0) _ rfl b3 Try.underlying56 rfl (by kernel_rfl)) rfl ?_
     exact ⟨rfl, (B1.out.setCell (p := ⟨w.heap.size, 0, none⟩) (Nat.le_refl _) _).setCell (p := ⟨w.heap.size, 1, none⟩) (Nat.le_refl _) _⟩)
  | (refine bodyPost_ret (results_ct rfl _ _ w.heap.size 56 #[.slice none 0 0, .slice none 0 0] (0, 0) _ rfl BKA.out Try.underlying56 rfl (by kernel_rfl)) rfl ?_
     exact ⟨rfl, B1.out⟩)


/-! ### impl_SeedPolicy: function 45: by hand -/
/-- The seeds one behind another, and the orders. -/
def impl_SeedPolicy.sd (k : Nat) (n : Int) (s : Int) : Nat → Int
  | 0 => s
  | i + 1 => ((impl_seedOrder.f k (impl_SeedPolicy.sd k n s i) n).getD ([], 0)).2
def impl_SeedPolicy.row (k : Nat) (n : Int) (s : Int) (i : Nat) : List Int := ((impl_seedOrder.f k (impl_SeedPolicy.sd k n s i) n).getD ([], 0)).1
def impl_SeedPolicy.f (k : Nat) (a0 a1 : Int) : Option (List (List Int) × List Int × Bool) :=
  if 1 ≤ a1 ∧ a1 ≤ 2147483646 ∧ 1 ≤ a0 ∧ a0 ≤ 6 then
    (if (List.range (a0.toNat + 1)).all (fun i => (impl_seedOrder.f k (impl_SeedPolicy.sd k a0 a1 i) a0).isSome) then some ((List.range a0.toNat).map (impl_SeedPolicy.row k a0 a1), impl_SeedPolicy.row k a0 a1 a0.toNat, true) else none)
  else some ([], [], false)
set_option maxHeartbeats 8000000 in
set_option maxRecDepth 100000 in
/-- draw -/
theorem impl_SeedPolicy.draw (k : Nat) (s n s' : Int) (row : List Int) (b1 b0 : Nat) (w0 W : World) (hB : Below w0.heap.size w0 W) (hb : w0.heap.size ≤ b1) (h1 : W.heap[b1]? = some (.cells #[.int .i64 s] 2 (0, 0))) (h0 : W.cell? ⟨b0, 0, none⟩ = some (.int .i64 n)) (h : impl_seedOrder.f k s n = some (row, s')) :
    Calls Try.prog 87 #[.pointer (some ⟨b1, 0, none⟩), .pointer (some ⟨b0, 0, none⟩)] W fun e w' => ∃ v, e = .returned v ∧ Kd.R (Kd.int .i64) 2 w' W.heap.size (fun _ => True) v row ∧ w'.heap[b1]? = some (.cells #[.int .i64 s'] 2 (0, 0)) ∧ Below w0.heap.size w0 w' ∧ Kept W w' (fun k_ => k_ = b1) := by
  have c1 : W.cell? ⟨b1, 0, none⟩ = some (.int .i64 s) := (blk_cell h1 0).trans rfl
  have hc := impl_seedOrder.calls k s n row s' W h
  have HL := Aside0.mk (blk_lt h1)
  have H1 := Aside0.mk h1
  have HB := Aside0.mk hB
  have HBB := Aside0.mk hb
  clear h h1 hB hb
  go_enter Try.func87, Try.ntmps87
  go_wp2_with fail
  refine hc.mono ?_
  clear hc c1 h0
  rintro e w1 ⟨v, rfl, r1, b1_⟩
  obtain ⟨A, c, rfl⟩ := Kd.R_slice r1
  have K := blk_below H1.out b1_
  have c1 : w1.cell? ⟨b1, 0, none⟩ = some (.int .i64 s) := (blk_cell K 0).trans rfl
  have f1 := blk_frozen K 0
  have R1 := Aside0.mk (Kd.R_bound r1)
  have KA := Aside0.mk K
  have B1 := Aside0.mk b1_
  clear r1 K b1_
  go_wp2
  go_ret
  refine ⟨_, rfl, Kd.R_mono (Kd.R_far (p := ⟨b1, 0, none⟩) R1.out (fun k_ h_ => by have := h_.2.1; have := HL.out; show k_ ≠ b1; omega) _) (fun _ _ => trivial), blk_put (cs := #[.int .i64 s]) KA.out 0 _ rfl, (below_step HB.out B1.out).setCell (p := ⟨b1, 0, none⟩) HBB.out _, Kept.setCell (Kept.of_below B1.out (fun k_ => k_ = b1)) (p := ⟨b1, 0, none⟩) (.inl rfl) _⟩
set_option maxHeartbeats 8000000 in
set_option maxRecDepth 100000 in
theorem impl_SeedPolicy.hit (k : Nat) (i s n s' : Int) (row : List Int) (b3 b1 b0 : Nat) (w0 W : World) (hB : Below w0.heap.size w0 W) (hb : w0.heap.size ≤ b1) (h1 : W.heap[b1]? = some (.cells #[.int .i64 s] 2 (0, 0))) (h0 : W.cell? ⟨b0, 0, none⟩ = some (.int .i64 n)) (h3 : W.cell? ⟨b3, 0, none⟩ = some (.func (.func 87) #[] #[.pointer (some ⟨b1, 0, none⟩), .pointer (some ⟨b0, 0, none⟩)])) (h : impl_seedOrder.f k s n = some (row, s')) :
    Calls Try.prog 89 (#[.int .i64 i] ++ #[.pointer (some ⟨b3, 0, none⟩)]) W fun e w' => ∃ v, e = .returned v ∧ Kd.R (Kd.int .i64) 2 w' W.heap.size (fun _ => True) v row ∧ w'.heap[b1]? = some (.cells #[.int .i64 s'] 2 (0, 0)) ∧ Below w0.heap.size w0 w' ∧ Kept W w' (fun k_ => k_ = b1) := by
  show Calls Try.prog 89 #[.int .i64 i, .pointer (some ⟨b3, 0, none⟩)] W _
  have hc := impl_SeedPolicy.draw k s n s' row b1 b0 w0 W hB hb h1 h0 h
  have eg : ∀ args w, (callFunc 87 args).run Try.prog w = .ok (.enter 87 args) w := enters_of Try.func87 (by kernel_rfl) rfl
  clear h h1 h0 hB hb
  go_enter Try.func89, Try.ntmps89
  go_wp2_with fail
  refine hc.mono ?_
  clear hc h3 eg
  rintro e w1 ⟨v, rfl, r1, h2, b2, k2⟩
  obtain ⟨A, c, rfl⟩ := Kd.R_slice r1
  have H := Aside0.mk (And.intro r1 (And.intro h2 (And.intro b2 k2)))
  clear r1 h2 b2 k2
  go_wp2
  go_ret
  exact ⟨_, rfl, H.out.1, H.out.2.1, H.out.2.2.1, H.out.2.2.2⟩
set_option maxHeartbeats 8000000 in
set_option maxRecDepth 100000 in
theorem impl_SeedPolicy.no (a0 a1 : Int) (hw : ¬ (1 ≤ a1 ∧ a1 ≤ 2147483646 ∧ 1 ≤ a0 ∧ a0 ≤ 6)) (w : World) :
    Calls Try.prog 45 #[.int .i64 a0, .int .i64 a1] w fun e w' => ∃ v0_ v1_ : Value, e = .returned (.tuple #[.agg #[v0_, v1_], .bool false]) ∧ Kd.S (Kd.slice 2 (Kd.int .i64)) 24 w' w.heap.size (fun k_ => some k_ ≠ (v1_ : Value).ownBlock) v0_ [] ∧ Kd.R (Kd.int .i64) 2 w' w.heap.size (fun _ => True) v1_ [] ∧ Below w.heap.size w w' := by
  have hu56 := Try.underlying56
  have l1 := size_alloc w (.cells #[.int .i64 a0] 2)
  have l2 := size_alloc (w.alloc (.cells #[.int .i64 a0] 2)) (.cells #[.int .i64 a1] 2)
  have k1 := blk_new w (.cells #[.int .i64 a0] 2)
  have k2 := blk_new (w.alloc (.cells #[.int .i64 a0] 2)) (.cells #[.int .i64 a1] 2)
  have k3 := blk_new ((w.alloc (.cells #[.int .i64 a0] 2)).alloc (.cells #[.int .i64 a1] 2)) (.cells #[.slice none 0 0, .slice none 0 0] 56)
  rw [l2, l1] at k3
  rw [l1] at k2
  have BK0 := blk_alloc (blk_alloc k1 (.cells #[.int .i64 a1] 2)) (.cells #[.slice none 0 0, .slice none 0 0] 56)
  have BK1 := blk_alloc k2 (.cells #[.slice none 0 0, .slice none 0 0] 56)
  have BB : Below w.heap.size w (((w.alloc (.cells #[.int .i64 a0] 2)).alloc (.cells #[.int .i64 a1] 2)).alloc (.cells #[.slice none 0 0, .slice none 0 0] 56)) := below_alloc (below_alloc (below_alloc (Below.refl _ _) _) _) _
  clear l1 l2 k1 k2
  generalize hw1 : (((w.alloc (.cells #[.int .i64 a0] 2)).alloc (.cells #[.int .i64 a1] 2)).alloc (.cells #[.slice none 0 0, .slice none 0 0] 56)) = w1 at BK0 BK1 k3 BB
  have HW1 := Aside0.mk hw1
  clear hw1
  have cs : w1.cell? ⟨w.heap.size + 1, 0, none⟩ = some (.int .i64 a1) := (blk_cell BK1 0).trans rfl
  have hc := impl_isSeed.calls a1 (decide (1 ≤ a1) && decide (a1 ≤ 2147483646)) w1 (by unfold impl_isSeed.f impl_inRange.f; by_cases h : 1 ≤ a1 <;> simp [h])
  rw [← HW1.out] at hc cs
  have A0 := Aside0.mk BK0
  have A3 := Aside0.mk k3
  have BBA := Aside0.mk BB
  clear BK0 BK1 k3 BB
  by_cases h1 : 1 ≤ a1 ∧ a1 ≤ 2147483646
  · rw [show (decide (1 ≤ a1) && decide (a1 ≤ 2147483646)) = true by rw [decide_eq_true h1.1, decide_eq_true h1.2]; rfl] at hc
    have HW := Aside0.mk (show ¬ (1 ≤ a0 ∧ a0 ≤ 6) from fun h => hw ⟨h1.1, h1.2, h⟩)
    clear hw h1
    go_enter Try.func45, Try.ntmps45
    go_wp2_with fail
    refine hc.mono ?_
    clear hc cs
    rintro e w2 ⟨rfl, hd⟩
    have b2 := Drawn0.below hd
    rw [HW1.out] at b2
    have n0 := blk_alloc (blk_below A0.out b2) (.cells #[.func (.func 87) #[] #[.pointer (some ⟨w.heap.size + 1, 0, none⟩), .pointer (some ⟨w.heap.size, 0, none⟩)]] 84)
    have n3 := blk_alloc (blk_below A3.out b2) (.cells #[.func (.func 87) #[] #[.pointer (some ⟨w.heap.size + 1, 0, none⟩), .pointer (some ⟨w.heap.size, 0, none⟩)]] 84)
    have nB := below_alloc (below_step BBA.out b2) (.cells #[.func (.func 87) #[] #[.pointer (some ⟨w.heap.size + 1, 0, none⟩), .pointer (some ⟨w.heap.size, 0, none⟩)]] 84)
    clear hd b2 A0 A3 BBA
    generalize hw3 : w2.alloc (.cells #[.func (.func 87) #[] #[.pointer (some ⟨w.heap.size + 1, 0, none⟩), .pointer (some ⟨w.heap.size, 0, none⟩)]] 84) = w3 at n0 n3 nB
    have HW3 := Aside0.mk hw3
    clear hw3
    have cw : w3.cell? ⟨w.heap.size, 0, none⟩ = some (.int .i64 a0) := (blk_cell n0 0).trans rfl
    have hp := policyOf_bad a0 HW.out (.func (.func 89) #[] #[.pointer (some ⟨w2.heap.size, 0, none⟩)]) (.func (.func 87) #[] #[.pointer (some ⟨w.heap.size + 1, 0, none⟩), .pointer (some ⟨w.heap.size, 0, none⟩)]) w3
    have A3 := Aside0.mk n3
    have NB := Aside0.mk nB
    clear n0 n3 nB
    rw [← HW3.out] at hp cw
    go_wp2_with fail
    refine hp.mono ?_
    clear hp cw
    rintro e w4 ⟨rfl, b4⟩
    rw [HW3.out] at b4
    have BK := blk_below A3.out b4
    have hr0 : w4.cell? ⟨w.heap.size + 1 + 1, 0, none⟩ = some (.slice none 0 0) := (blk_cell BK 0).trans rfl
    have hr1 : w4.cell? ⟨w.heap.size + 1 + 1, 1, none⟩ = some (.slice none 0 0) := (blk_cell BK 1).trans rfl
    have fr0 := blk_frozen BK 0
    have fr1 := blk_frozen BK 1
    have BKA := Aside0.mk BK
    have B2 := Aside0.mk (below_step NB.out b4)
    clear b4 BK
    go_wp2
    clear hr0 hr1 fr0 fr1
    have b3 := blk_put (cs := #[.slice none 0 0, .slice none 0 0]) BKA.out 0 (.slice none 0 0) rfl
    have b4 := blk_put (cs := #[.slice none 0 0, .slice none 0 0]) b3 1 (.slice none 0 0) rfl
    refine bodyPost_ret (results_ct rfl _ _ (w.heap.size + 1 + 1) 56 #[.slice none 0 0, .slice none 0 0] (0, 0) _ rfl b4 Try.underlying56 rfl (by kernel_rfl)) rfl ?_
    exact ⟨_, _, rfl, Kd.S_nil _ _ _ _ _, Kd.R_nil _ _ _ _ _, (B2.out.setCell (p := ⟨w.heap.size + 1 + 1, 0, none⟩) (by show w.heap.size ≤ w.heap.size + 1 + 1; omega) _).setCell (p := ⟨w.heap.size + 1 + 1, 1, none⟩) (by show w.heap.size ≤ w.heap.size + 1 + 1; omega) _⟩
  · rw [show (decide (1 ≤ a1) && decide (a1 ≤ 2147483646)) = false by by_cases g1 : 1 ≤ a1 <;> by_cases g2 : a1 ≤ 2147483646 <;> simp_all] at hc
    clear hw h1
    go_enter Try.func45, Try.ntmps45
    go_wp2_with fail
    refine hc.mono ?_
    clear hc cs
    rintro e w2 ⟨rfl, hd⟩
    have b2 := Drawn0.below hd
    rw [HW1.out] at b2
    have BK := blk_below A3.out b2
    have hr0 : w2.cell? ⟨w.heap.size + 1 + 1, 0, none⟩ = some (.slice none 0 0) := (blk_cell BK 0).trans rfl
    have hr1 : w2.cell? ⟨w.heap.size + 1 + 1, 1, none⟩ = some (.slice none 0 0) := (blk_cell BK 1).trans rfl
    have fr0 := blk_frozen BK 0
    have fr1 := blk_frozen BK 1
    have BKA := Aside0.mk BK
    have B2 := Aside0.mk (below_step BBA.out b2)
    clear hd b2 BK
    go_wp2
    clear hr0 hr1 fr0 fr1
    have b3 := blk_put (cs := #[.slice none 0 0, .slice none 0 0]) BKA.out 0 (.slice none 0 0) rfl
    have b4 := blk_put (cs := #[.slice none 0 0, .slice none 0 0]) b3 1 (.slice none 0 0) rfl
    refine bodyPost_ret (results_ct rfl _ _ (w.heap.size + 1 + 1) 56 #[.slice none 0 0, .slice none 0 0] (0, 0) _ rfl b4 Try.underlying56 rfl (by kernel_rfl)) rfl ?_
    exact ⟨_, _, rfl, Kd.S_nil _ _ _ _ _, Kd.R_nil _ _ _ _ _, (B2.out.setCell (p := ⟨w.heap.size + 1 + 1, 0, none⟩) (by show w.heap.size ≤ w.heap.size + 1 + 1; omega) _).setCell (p := ⟨w.heap.size + 1 + 1, 1, none⟩) (by show w.heap.size ≤ w.heap.size + 1 + 1; omega) _⟩
set_option maxHeartbeats 8000000 in
set_option maxRecDepth 100000 in
theorem impl_SeedPolicy.yes (k n : Nat) (s : Int) (hs : 1 ≤ s ∧ s ≤ 2147483646) (hw : 1 ≤ n ∧ n ≤ 6) (hrun : ∀ i, i ≤ n → impl_seedOrder.f k (impl_SeedPolicy.sd k n s i) n = some (impl_SeedPolicy.row k n s i, impl_SeedPolicy.sd k n s (i + 1))) (w : World) :
    Calls Try.prog 45 #[.int .i64 n, .int .i64 s] w fun e w' => ∃ v0_ v1_ : Value, e = .returned (.tuple #[.agg #[v0_, v1_], .bool true]) ∧ Kd.S (Kd.slice 2 (Kd.int .i64)) 24 w' w.heap.size (fun k_ => some k_ ≠ (v1_ : Value).ownBlock) v0_ ((List.range n).map (impl_SeedPolicy.row k n s)) ∧ Kd.R (Kd.int .i64) 2 w' w.heap.size (fun _ => True) v1_ (impl_SeedPolicy.row k n s n) ∧ Below w.heap.size w w' := by
  have hu56 := Try.underlying56
  have l1 := size_alloc w (.cells #[.int .i64 n] 2)
  have l2 := size_alloc (w.alloc (.cells #[.int .i64 n] 2)) (.cells #[.int .i64 s] 2)
  have l3 := size_alloc ((w.alloc (.cells #[.int .i64 n] 2)).alloc (.cells #[.int .i64 s] 2)) (.cells #[.slice none 0 0, .slice none 0 0] 56)
  have k1 := blk_new w (.cells #[.int .i64 n] 2)
  have k2 := blk_new (w.alloc (.cells #[.int .i64 n] 2)) (.cells #[.int .i64 s] 2)
  have k3 := blk_new ((w.alloc (.cells #[.int .i64 n] 2)).alloc (.cells #[.int .i64 s] 2)) (.cells #[.slice none 0 0, .slice none 0 0] 56)
  rw [l2, l1] at l3 k3
  rw [l1] at k2
  have BK0 := blk_alloc (blk_alloc k1 (.cells #[.int .i64 s] 2)) (.cells #[.slice none 0 0, .slice none 0 0] 56)
  have BK1 := blk_alloc k2 (.cells #[.slice none 0 0, .slice none 0 0] 56)
  have BB : Below w.heap.size w (((w.alloc (.cells #[.int .i64 n] 2)).alloc (.cells #[.int .i64 s] 2)).alloc (.cells #[.slice none 0 0, .slice none 0 0] 56)) := below_alloc (below_alloc (below_alloc (Below.refl _ _) _) _) _
  clear l1 l2 k1 k2
  generalize hw1 : (((w.alloc (.cells #[.int .i64 n] 2)).alloc (.cells #[.int .i64 s] 2)).alloc (.cells #[.slice none 0 0, .slice none 0 0] 56)) = w1 at BK0 BK1 k3 BB l3
  have HW1 := Aside0.mk hw1
  clear hw1
  have cs := (blk_cell BK1 0).trans rfl
  have hc := impl_isSeed.calls s true w1 (by unfold impl_isSeed.f impl_inRange.f; simp [hs.1, hs.2])
  rw [← HW1.out] at hc cs
  generalize hrr : (List.range n).map (impl_SeedPolicy.row k n s) = RR at ⊢
  generalize hlst : impl_SeedPolicy.row k n s n = lst at ⊢
  generalize hnl : RR.length = nll
  have HNL := Aside0.mk hnl
  have HRR := Aside0.mk hrr
  have HLS := Aside0.mk hlst
  clear hnl hrr hlst
  have A0 := Aside0.mk BK0
  have A1 := Aside0.mk BK1
  have A3 := Aside0.mk k3
  have BBA := Aside0.mk BB
  have LLA := Aside0.mk l3
  have HWW := Aside0.mk (And.intro hs hw)
  have HRU := Aside0.mk hrun
  have hn6 : (n : Int) ≤ 6 := by omega
  clear BK0 BK1 k3 BB l3 hs hw hrun
  go_enter Try.func45, Try.ntmps45
  go_wp2_with fail
  refine hc.mono ?_
  clear hc cs
  rintro e w2 ⟨rfl, hd⟩
  have b2 := Drawn0.below hd
  rw [HW1.out] at b2
  have m0 := blk_below A0.out b2
  have n0 := blk_alloc m0 (.cells #[.func (.func 87) #[] #[.pointer (some ⟨w.heap.size + 1, 0, none⟩), .pointer (some ⟨w.heap.size, 0, none⟩)]] 84)
  have n1 := blk_alloc (blk_below A1.out b2) (.cells #[.func (.func 87) #[] #[.pointer (some ⟨w.heap.size + 1, 0, none⟩), .pointer (some ⟨w.heap.size, 0, none⟩)]] 84)
  have n3 := blk_alloc (blk_below A3.out b2) (.cells #[.func (.func 87) #[] #[.pointer (some ⟨w.heap.size + 1, 0, none⟩), .pointer (some ⟨w.heap.size, 0, none⟩)]] 84)
  have n4 := blk_new w2 (.cells #[.func (.func 87) #[] #[.pointer (some ⟨w.heap.size + 1, 0, none⟩), .pointer (some ⟨w.heap.size, 0, none⟩)]] 84)
  have nB := below_alloc (below_step BBA.out b2) (.cells #[.func (.func 87) #[] #[.pointer (some ⟨w.heap.size + 1, 0, none⟩), .pointer (some ⟨w.heap.size, 0, none⟩)]] 84)
  have nl := size_alloc w2 (.cells #[.func (.func 87) #[] #[.pointer (some ⟨w.heap.size + 1, 0, none⟩), .pointer (some ⟨w.heap.size, 0, none⟩)]] 84)
  have nl2 := Below.size b2
  have hlt : w.heap.size < w2.heap.size := blk_lt m0
  have lt2 : w.heap.size + 1 + 1 < w2.heap.size := blk_lt (blk_below A3.out b2)
  clear hd b2 m0 A0 A1 A3 BBA
  generalize hw3 : w2.alloc (.cells #[.func (.func 87) #[] #[.pointer (some ⟨w.heap.size + 1, 0, none⟩), .pointer (some ⟨w.heap.size, 0, none⟩)]] 84) = w3 at n0 n1 n3 n4 nB nl
  have HW3 := Aside0.mk hw3
  clear hw3
  have hp := Pol.policyOf_at n (by omega) 89 87 #[.pointer (some ⟨w2.heap.size, 0, none⟩)] #[.pointer (some ⟨w.heap.size + 1, 0, none⟩), .pointer (some ⟨w.heap.size, 0, none⟩)] (enters_of Try.func89 (by kernel_rfl) rfl) (enters_of Try.func87 (by kernel_rfl) rfl)
    w w3 nB (fun k_ => k_ = w.heap.size + 1) (fun k_ h => by omega) (fun i W => W.heap[w.heap.size + 1]? = some (.cells #[.int .i64 (impl_SeedPolicy.sd k n s i)] 2 (0, 0)) ∧ Kept w3 W (fun k_ => k_ = w.heap.size + 1 ∨ w3.heap.size ≤ k_)) (impl_SeedPolicy.row k n s) (impl_SeedPolicy.row k n s n)
    (fun i W W' h1 h2 h3 => ⟨blk_kept h1.1 h2 (by omega), h1.2.then_ h2 (fun k_ hk => .inl (.inr hk))⟩)
    (fun i W hi hI hb hl => (impl_SeedPolicy.hit k i _ n _ _ w2.heap.size (w.heap.size + 1) w.heap.size w W hb (by omega) hI.1 ((blk_cell (blk_kept n0 hI.2 (by omega)) 0).trans rfl) ((blk_cell (blk_kept n4 hI.2 (by omega)) 0).trans rfl) (HRU.out i (by omega))).mono (fun e w' ⟨v, he, hr, hc2, hb2, hk2⟩ => ⟨v, he, hr, ⟨hc2, hI.2.then_ hk2 (fun k_ hk => .inl (.inl hk))⟩, hb2, hk2⟩))
    (fun W hI hb hl => (impl_SeedPolicy.draw k _ n _ _ (w.heap.size + 1) w.heap.size w W hb (by omega) hI.1 ((blk_cell (blk_kept n0 hI.2 (by omega)) 0).trans rfl) (HRU.out n (by omega))).mono (fun e w' ⟨v, he, hr, hc2, hb2, hk2⟩ => ⟨v, he, hr, ⟨hc2, hI.2.then_ hk2 (fun k_ hk => .inl (.inl hk))⟩, hb2, hk2⟩))
    ⟨n1, Kept.refl _ _⟩ (fun W => by
      have := isWays_at (n : Int) W
      rwa [show (decide (1 ≤ (n : Int)) && decide ((n : Int) ≤ 6)) = true by rw [decide_eq_true (by have := HWW.out; omega), decide_eq_true (by omega)]; rfl] at this)
  have cw : w3.cell? ⟨w.heap.size, 0, none⟩ = some (.int .i64 n) := (blk_cell n0 0).trans rfl
  have A3 := Aside0.mk n3
  have NB := Aside0.mk (And.intro nB (And.intro nl (And.intro lt2 hlt)))
  clear n0 n1 n3 n4 nB nl nl2 lt2 hlt
  rw [HRR.out, HLS.out] at hp
  rw [← HW3.out] at hp cw
  go_wp2_with fail
  refine hp.mono ?_
  clear hp cw
  rintro e w4 ⟨v0, v1, rfl, s2, r2, -, b2, k2⟩
  rw [HW3.out] at s2 r2 k2
  obtain ⟨A0, c0, rfl⟩ := Kd.S_slice s2
  obtain ⟨A1, c1, rfl⟩ := Kd.R_slice r2
  have BK := blk_kept A3.out k2 (fun h => by omega)
  have hr0 : w4.cell? ⟨w.heap.size + 1 + 1, 0, none⟩ = some (.slice none 0 0) := (blk_cell BK 0).trans rfl
  have hr1 : w4.cell? ⟨w.heap.size + 1 + 1, 1, none⟩ = some (.slice none 0 0) := (blk_cell BK 1).trans rfl
  have fr0 := blk_frozen BK 0
  have fr1 := blk_frozen BK 1
  rw [HNL.out] at s2 ⊢
  have S2 := Aside0.mk s2
  have R2 := Aside0.mk r2
  have BKA := Aside0.mk BK
  have B2 := Aside0.mk b2
  clear s2 r2 k2 b2 BK
  go_wp2
  clear hr0 hr1 fr0 fr1
  have b3 := blk_put (cs := #[.slice none 0 0, .slice none 0 0]) BKA.out 0 (.slice A0 nll c0) rfl
  have b4 := blk_put (cs := #[.slice A0 nll c0, .slice none 0 0]) b3 1 (.slice A1 lst.length c1) rfl
  have s3 := Kd.S_far (p := ⟨w.heap.size + 1 + 1, 1, none⟩) (Kd.S_far (p := ⟨w.heap.size + 1 + 1, 0, none⟩) (Kd.S_types S2.out BKA.out (by decide)) (fun _ hk => hk.2) (.slice A0 nll c0)) (fun _ hk => hk.2) (.slice A1 lst.length c1)
  have r3 := Kd.R_far (p := ⟨w.heap.size + 1 + 1, 1, none⟩) (Kd.R_far (p := ⟨w.heap.size + 1 + 1, 0, none⟩) (Kd.R_types R2.out BKA.out (by decide)) (fun _ hk => hk.2) (.slice A0 nll c0)) (fun _ hk => hk.2) (.slice A1 lst.length c1)
  refine bodyPost_ret (results_ct rfl _ _ (w.heap.size + 1 + 1) 56 #[.slice A0 nll c0, .slice A1 lst.length c1] (0, 0) _ rfl b4 Try.underlying56 rfl (by kernel_rfl)) rfl ?_
  exact ⟨_, _, rfl, Kd.S_mono s3 (fun _ h_ => h_.1.2), Kd.R_mono r3 (fun _ _ => trivial), (B2.out.setCell (p := ⟨w.heap.size + 1 + 1, 0, none⟩) (by show w.heap.size ≤ w.heap.size + 1 + 1; omega) _).setCell (p := ⟨w.heap.size + 1 + 1, 1, none⟩) (by show w.heap.size ≤ w.heap.size + 1 + 1; omega) _⟩
set_option maxHeartbeats 8000000 in
set_option maxRecDepth 100000 in
theorem impl_SeedPolicy.calls (k : Nat) (a0 a1 : Int) (r1 : List (List Int)) (r2 : List Int) (r3 : Bool) (w : World) (h : impl_SeedPolicy.f k a0 a1 = some (r1, r2, r3)) :
    Calls Try.prog 45 #[.int .i64 a0, .int .i64 a1] w fun e w' => ∃ v0_ v1_ : Value, e = .returned (.tuple #[.agg #[v0_, v1_], .bool r3]) ∧ Kd.S (Kd.slice 2 (Kd.int .i64)) 24 w' w.heap.size (fun k_ => some k_ ≠ (v1_ : Value).ownBlock) v0_ r1 ∧ Kd.R (Kd.int .i64) 2 w' w.heap.size (fun _ => True) v1_ r2 ∧ Below w.heap.size w w' := by
  unfold impl_SeedPolicy.f at h
  by_cases hw : 1 ≤ a1 ∧ a1 ≤ 2147483646 ∧ 1 ≤ a0 ∧ a0 ≤ 6
  · rw [if_pos hw] at h
    by_cases ha : (List.range (a0.toNat + 1)).all (fun i => (impl_seedOrder.f k (impl_SeedPolicy.sd k a0 a1 i) a0).isSome) = true
    · rw [if_pos ha] at h
      injection h with h
      injection h with e1 h
      injection h with e2 e3
      subst e1 e2 e3
      obtain ⟨n, rfl⟩ := Int.eq_ofNat_of_zero_le (show 0 ≤ a0 by omega)
      rw [Int.toNat_natCast] at ha ⊢
      refine impl_SeedPolicy.yes k n a1 ⟨hw.1, hw.2.1⟩ (by omega) (fun i hi => ?_) w
      have hs := List.all_eq_true.1 ha i (List.mem_range.2 (by omega))
      obtain ⟨p, hp⟩ := Option.isSome_iff_exists.1 hs
      have q1 : impl_SeedPolicy.row k n a1 i = p.1 := by unfold impl_SeedPolicy.row; rw [hp]; rfl
      have q2 : impl_SeedPolicy.sd k n a1 (i + 1) = p.2 := by show ((impl_seedOrder.f k (impl_SeedPolicy.sd k n a1 i) n).getD ([], 0)).2 = _; rw [hp]; rfl
      rw [hp, q1, q2]
    · rw [if_neg ha] at h
      cases h
  · rw [if_neg hw] at h
    injection h with h
    injection h with e1 h
    injection h with e2 e3
    subst e1 e2 e3
    exact impl_SeedPolicy.no a0 a1 hw w


/-! ### laws_eqInt64S: function 19 -/
def laws_eqInt64S.l0 : Nat → List Int → List Int → Int → Option (Bool)
  | 0, _, _, _ => none
  | k + 1, x0, x1, x5 => if x5 < (x0.length : Int) then (if 0 ≤ x5 then (if x5 < (x1.length : Int) then (if (rd x0 x5) = (rd x1 x5) then (laws_eqInt64S.l0 k x0 x1 (wrap64 (x5 + 1))) else (some false)) else (none)) else (none)) else (some true)
def laws_eqInt64S.f (k : Nat) (l0 : List Int) (l1 : List Int) : Option (Bool) := if (l0.length : Int) = (l1.length : Int) then (laws_eqInt64S.l0 k l0 l1 0) else (some false)
theorem laws_eqInt64S.mono_l : ∀ k, (∀ y0 y1 y2, LeO (laws_eqInt64S.l0 k y0 y1 y2) (laws_eqInt64S.l0 (k + 1) y0 y1 y2))
  | 0 => fun _ _ _ r h => by simp [laws_eqInt64S.l0] at h
  | k + 1 => by
    have ih0 := laws_eqInt64S.mono_l k
    · intro y0 y1 y2
      unfold laws_eqInt64S.l0
      repeat' first
      | (with_reducible exact ih0 _ _ _)
      | (with_reducible exact LeO.refl _)
      | (with_reducible exact LeO.none _)
      | (with_reducible refine LeO.ite ?_ ?_)
      | (with_reducible refine LeO.bind ?_ (fun _ => ?_))
      | exact ih0 _ _ _
      | exact LeO.none _
      | refine LeO.ite ?_ ?_
      | refine LeO.bind ?_ (fun _ => ?_)
theorem laws_eqInt64S.mono : ∀ a0 a1 k, LeO (laws_eqInt64S.f k a0 a1) (laws_eqInt64S.f (k + 1) a0 a1) := by
  intro a0 a1 k
  have ih0 := laws_eqInt64S.mono_l k
  unfold laws_eqInt64S.f
  repeat' first
      | (with_reducible exact ih0 _ _ _)
      | (with_reducible exact LeO.refl _)
      | (with_reducible exact LeO.none _)
      | (with_reducible refine LeO.ite ?_ ?_)
      | (with_reducible refine LeO.bind ?_ (fun _ => ?_))
      | exact ih0 _ _ _
      | exact LeO.none _
      | refine LeO.ite ?_ ?_
      | refine LeO.bind ?_ (fun _ => ?_)
set_option maxHeartbeats 8000000 in
set_option maxRecDepth 100000 in
theorem laws_eqInt64S.calls (k : Nat) (A0 : Option Addr) (c0 : Nat) (l0 : List Int) (A1 : Option Addr) (c1 : Nat) (l1 : List Int) (r : Bool) (w : World) (hr0 : Kd.C (Kd.int .i64) w A0 l0.length l0) (hc0 : l0.length ≤ c0) (hr1 : Kd.C (Kd.int .i64) w A1 l1.length l1) (hc1 : l1.length ≤ c1) (h : laws_eqInt64S.f k l0 l1 = some r) :
    Calls Try.prog 19 #[.slice A0 l0.length c0, .slice A1 l1.length c1] w fun e w' => e = .returned (.bool r) ∧ Drawn0 w w' := by
  have HR0 := Aside0.mk hr0
  have HC0 := Aside0.mk hc0
  clear hr0 hc0
  have HR1 := Aside0.mk hr1
  have HC1 := Aside0.mk hc1
  clear hr1 hc1
  have H : (if (l0.length : Int) = (l1.length : Int) then (laws_eqInt64S.l0 k l0 l1 0) else (some false)) = some r := h
  clear h
  by_cases c3 : (l0.length : Int) = (l1.length : Int)
  · rw [if_pos c3] at H
    have c3b0 : ((l0.length : Int) == (l1.length : Int)) = true := beq_iff_eq.mpr c3
    have c3b1 : ((l0.length : Int) != (l1.length : Int)) = false := bne_eq_false_iff_eq.mpr c3
    have c3b2 : (l0.length == l1.length) = true := by first | simpa using c3 | (simp at c3 ⊢; omega)
    clear c3
    have H' := Aside0.mk H
    clear H
    go_enter Try.func19, Try.ntmps19
    go_wp2
    repeat (go_quiet (fail); try go_wp2)
    go_loopg [5] k (fun kq v5 w' => ∃ (x5_1 : Int), v5 = .int .i64 x5_1 ∧ Aside0 (laws_eqInt64S.l0 kq l0 l1 x5_1 = some r) ∧ Aside0 (kq ≤ k) ∧ Drawn0 w w')
    case atStart => exact ⟨(0), (by first | rfl | (simp; done) | (simp [*]; done)), H', ⟨Nat.le_refl _⟩, by repeat (first | exact Drawn0.refl _ | apply Drawn0.step)⟩
    case round =>
      clear H'
      try clear c1
      try clear p2
      try clear c3
      try clear c3b0
      try clear c3b1
      try clear c3b2
      obtain ⟨x5_1, rfl, HA, HK1, ⟨m1, rfl⟩⟩ := hrel
      cases gk with
      | zero => exact absurd HA.out (by simp [laws_eqInt64S.l0])
      | succ k1 =>
        have H := HA.out
        clear HA
        simp only [laws_eqInt64S.l0] at H
        by_cases c4 : x5_1 < (l0.length : Int)
        · rw [if_pos c4] at H
          have c4b0 : decide (x5_1 < (l0.length : Int)) = true := decide_eq_true c4
          clear c4
          by_cases c5 : 0 ≤ x5_1
          · rw [if_pos c5] at H
            have c5b0 : decide (0 ≤ x5_1) = true := decide_eq_true c5
            clear c5
            by_cases c6 : x5_1 < (l1.length : Int)
            · rw [if_pos c6] at H
              have c6b0 : decide (x5_1 < (l1.length : Int)) = true := decide_eq_true c6
              clear c6
              by_cases c7 : (rd l0 x5_1) = (rd l1 x5_1)
              · rw [if_pos c7] at H
                have c7b0 : ((rd l0 x5_1) == (rd l1 x5_1)) = true := beq_iff_eq.mpr c7
                have c7b1 : ((rd l0 x5_1) != (rd l1 x5_1)) = false := bne_eq_false_iff_eq.mpr c7
                clear c7
                have H' := Aside0.mk H
                clear H
                have p153 : 0 ≤ (x5_1 : Int) := of_decide_eq_true (by first | (with_reducible assumption) | assumption)
                have q153 : x5_1 < (l0.length : Int) := of_decide_eq_true (by first | (with_reducible assumption) | assumption)
                obtain ⟨ad153, e153, hx153_0⟩ := Kd.at_int HR0.out x5_1 p153 q153
                cases e153
                replace p153 := eq_true p153
                replace q153 := eq_true q153
                have p154 : 0 ≤ (x5_1 : Int) := of_decide_eq_true (by first | (with_reducible assumption) | assumption)
                have q154 : x5_1 < (l1.length : Int) := of_decide_eq_true (by first | (with_reducible assumption) | assumption)
                obtain ⟨ad154, e154, hx154_0⟩ := Kd.at_int HR1.out x5_1 p154 q154
                cases e154
                replace p154 := eq_true p154
                replace q154 := eq_true q154
                go_wp2
                repeat (go_quiet (fail); try go_wp2)
                go_roundg k1
                case measure => have := HK1.out; omega
                case rel => exact ⟨(wrap64 (x5_1 + 1)), (by first | rfl | (simp; done) | (simp [*]; done)), H', ⟨by have := HK1.out; omega⟩, by repeat (first | exact Drawn0.refl _ | apply Drawn0.step)⟩
              · rw [if_neg c7] at H
                have c7b0 : ((rd l0 x5_1) == (rd l1 x5_1)) = false := beq_eq_false_iff_ne.mpr c7
                have c7b1 : ((rd l0 x5_1) != (rd l1 x5_1)) = true := bne_iff_ne.mpr c7
                obtain rfl := Option.some.inj H
                have p153 : 0 ≤ (x5_1 : Int) := of_decide_eq_true (by first | (with_reducible assumption) | assumption)
                have q153 : x5_1 < (l0.length : Int) := of_decide_eq_true (by first | (with_reducible assumption) | assumption)
                obtain ⟨ad153, e153, hx153_0⟩ := Kd.at_int HR0.out x5_1 p153 q153
                cases e153
                replace p153 := eq_true p153
                replace q153 := eq_true q153
                have p154 : 0 ≤ (x5_1 : Int) := of_decide_eq_true (by first | (with_reducible assumption) | assumption)
                have q154 : x5_1 < (l1.length : Int) := of_decide_eq_true (by first | (with_reducible assumption) | assumption)
                obtain ⟨ad154, e154, hx154_0⟩ := Kd.at_int HR1.out x5_1 p154 q154
                cases e154
                replace p154 := eq_true p154
                replace q154 := eq_true q154
                go_wp2
                repeat (go_quiet (fail); try go_wp2)
                go_ret
                exact ⟨by first | rfl | (simp; done) | (simp [*]; done), by repeat (first | exact Drawn0.refl _ | apply Drawn0.step)⟩
            · rw [if_neg c6] at H
              exact absurd H (by simp)
          · rw [if_neg c5] at H
            exact absurd H (by simp)
        · rw [if_neg c4] at H
          have c4b0 : decide (x5_1 < (l0.length : Int)) = false := decide_eq_false c4
          clear c4
          obtain rfl := Option.some.inj H
          go_wp2
          repeat (go_quiet (fail); try go_wp2)
          go_ret
          exact ⟨by first | rfl | (simp; done) | (simp [*]; done), by repeat (first | exact Drawn0.refl _ | apply Drawn0.step)⟩
  · rw [if_neg c3] at H
    have c3b0 : ((l0.length : Int) == (l1.length : Int)) = false := beq_eq_false_iff_ne.mpr c3
    have c3b1 : ((l0.length : Int) != (l1.length : Int)) = true := bne_iff_ne.mpr c3
    have c3b2 : (l0.length == l1.length) = false := by first | simpa using c3 | (simp at c3 ⊢; omega)
    obtain rfl := Option.some.inj H
    go_enter Try.func19, Try.ntmps19
    go_wp2
    repeat (go_quiet (fail); try go_wp2)
    go_ret
    exact ⟨by first | rfl | (simp; done) | (simp [*]; done), by repeat (first | exact Drawn0.refl _ | apply Drawn0.step)⟩

end Go.Proofs.Ytbdedpodbnhkfaa.PFnExactSeedPolicy
