-- WRITTEN BY wip/xprint.py out of the translation, with contracts of mine put in: Lean checks it.
import Derived.Test.YteoacngaicchiaaPFnExactForgetAfterx0
import Derived.Test.YteoacngaicchiaaPFnExactForgetAfterx3
namespace Go.Proofs.Yteoacngaicchiaa.PFnExactForgetAfter
open Go.RowKit Go.Proofs.YteoacngaicchiaaW.PrintWords Go.Proofs.YteoacngaicchiaaW.PrintLast Go.Proofs.YteoacngaicchiaaW.PrintMore
attribute [local go_sem] max2_int min2_int max_two min_two max_three min_three max_four min_four   -- for this text's walks alone
set_option linter.unusedVariables false
set_option linter.unusedSimpArgs false

/-! ### impl_length_int64_68: function 68 -/
def impl_length_int64_68.f (l0 : List (List Int)) : Option (Int) := some (l0.length : Int)
set_option maxHeartbeats 8000000 in
set_option maxRecDepth 100000 in
theorem impl_length_int64_68.calls (A0 : Option Addr) (c0 : Nat) (l0 : List (List Int)) (r : Int) (w : World) (hr0 : Kd.C (Kd.slice 2 (Kd.int .i64)) w A0 l0.length l0) (hc0 : l0.length ≤ c0) (h : impl_length_int64_68.f l0 = some r) :
    Calls Try.prog 68 #[.slice A0 l0.length c0] w fun e w' => e = .returned (.int .i64 r) ∧ Drawn0 w w' := by
  have HR0 := Aside0.mk hr0
  have HC0 := Aside0.mk hc0
  clear hr0 hc0
  have H : (some (l0.length : Int)) = some r := h
  clear h
  obtain rfl := Option.some.inj H
  go_enter Try.func68, Try.ntmps68
  go_wp2
  go_ret
  exact ⟨by first | rfl | (simp; done) | (simp [*]; done), by repeat (first | exact Drawn0.refl _ | apply Drawn0.step)⟩

/-! ### slices_Equal_int64_int64: function 98 -/
def slices_Equal_int64_int64.l0 : Nat → List Int → List Int → Int → Int → Option (Bool)
  | 0, _, _, _, _ => none
  | k + 1, x0, x1, x12, x13 => if x13 < x12 then (if 0 ≤ x13 then (if x13 < (x0.length : Int) then (if x13 < (x1.length : Int) then (if (rd x0 x13) = (rd x1 x13) then (slices_Equal_int64_int64.l0 k x0 x1 x12 (wrap64 (x13 + 1))) else (some false)) else (none)) else (none)) else (none)) else (some true)
def slices_Equal_int64_int64.f (k : Nat) (l0 : List Int) (l1 : List Int) : Option (Bool) := if (l0.length : Int) = (l1.length : Int) then (slices_Equal_int64_int64.l0 k l0 l1 (l0.length : Int) 0) else (some false)
theorem slices_Equal_int64_int64.mono_l : ∀ k, (∀ y0 y1 y2 y3, LeO (slices_Equal_int64_int64.l0 k y0 y1 y2 y3) (slices_Equal_int64_int64.l0 (k + 1) y0 y1 y2 y3))
  | 0 => fun _ _ _ _ r h => by simp [slices_Equal_int64_int64.l0] at h
  | k + 1 => by
    have ih0 := slices_Equal_int64_int64.mono_l k
    · intro y0 y1 y2 y3
      unfold slices_Equal_int64_int64.l0
      repeat' first
      | (with_reducible exact ih0 _ _ _ _)
      | (with_reducible exact LeO.refl _)
      | (with_reducible exact LeO.none _)
      | (with_reducible refine LeO.ite ?_ ?_)
      | (with_reducible refine LeO.bind ?_ (fun _ => ?_))
      | exact ih0 _ _ _ _
      | exact LeO.none _
      | refine LeO.ite ?_ ?_
      | refine LeO.bind ?_ (fun _ => ?_)
theorem slices_Equal_int64_int64.mono : ∀ a0 a1 k, LeO (slices_Equal_int64_int64.f k a0 a1) (slices_Equal_int64_int64.f (k + 1) a0 a1) := by
  intro a0 a1 k
  have ih0 := slices_Equal_int64_int64.mono_l k
  unfold slices_Equal_int64_int64.f
  repeat' first
      | (with_reducible exact ih0 _ _ _ _)
      | (with_reducible exact LeO.refl _)
      | (with_reducible exact LeO.none _)
      | (with_reducible refine LeO.ite ?_ ?_)
      | (with_reducible refine LeO.bind ?_ (fun _ => ?_))
      | exact ih0 _ _ _ _
      | exact LeO.none _
      | refine LeO.ite ?_ ?_
      | refine LeO.bind ?_ (fun _ => ?_)
set_option maxHeartbeats 8000000 in
set_option maxRecDepth 100000 in
theorem slices_Equal_int64_int64.calls (k : Nat) (A0 : Option Addr) (c0 : Nat) (l0 : List Int) (A1 : Option Addr) (c1 : Nat) (l1 : List Int) (r : Bool) (w : World) (hr0 : Kd.C (Kd.int .i64) w A0 l0.length l0) (hc0 : l0.length ≤ c0) (hr1 : Kd.C (Kd.int .i64) w A1 l1.length l1) (hc1 : l1.length ≤ c1) (h : slices_Equal_int64_int64.f k l0 l1 = some r) :
    Calls Try.prog 98 #[.slice A0 l0.length c0, .slice A1 l1.length c1] w fun e w' => e = .returned (.bool r) ∧ Drawn0 w w' := by
  have HR0 := Aside0.mk hr0
  have HC0 := Aside0.mk hc0
  clear hr0 hc0
  have HR1 := Aside0.mk hr1
  have HC1 := Aside0.mk hc1
  clear hr1 hc1
  have H : (if (l0.length : Int) = (l1.length : Int) then (slices_Equal_int64_int64.l0 k l0 l1 (l0.length : Int) 0) else (some false)) = some r := h
  clear h
  by_cases c3 : (l0.length : Int) = (l1.length : Int)
  · rw [if_pos c3] at H
    have c3b0 : ((l0.length : Int) == (l1.length : Int)) = true := beq_iff_eq.mpr c3
    have c3b1 : ((l0.length : Int) != (l1.length : Int)) = false := bne_eq_false_iff_eq.mpr c3
    have c3b2 : (l0.length == l1.length) = true := by first | simpa using c3 | (simp at c3 ⊢; omega)
    clear c3
    have H' := Aside0.mk H
    clear H
    go_enter Try.func98, Try.ntmps98
    go_wp2
    repeat (go_quiet (fail); try go_wp2)
    go_loopg [13] k (fun kq v13 w' => ∃ (x13_1 : Int), v13 = .int .i64 x13_1 ∧ Aside0 (slices_Equal_int64_int64.l0 kq l0 l1 (l0.length : Int) x13_1 = some r) ∧ Aside0 (kq ≤ k) ∧ Drawn0 w w')
    case atStart => exact ⟨(0), (by first | rfl | (simp; done) | (simp [*]; done)), H', ⟨Nat.le_refl _⟩, by repeat (first | exact Drawn0.refl _ | apply Drawn0.step)⟩
    case round =>
      clear H'
      try clear c1
      try clear p2
      try clear c3
      try clear c3b0
      try clear c3b1
      try clear c3b2
      obtain ⟨x13_1, rfl, HA, HK1, ⟨m1, rfl⟩⟩ := hrel
      cases gk with
      | zero => exact absurd HA.out (by simp [slices_Equal_int64_int64.l0])
      | succ k1 =>
        have H := HA.out
        clear HA
        simp only [slices_Equal_int64_int64.l0] at H
        by_cases c4 : x13_1 < (l0.length : Int)
        · rw [if_pos c4] at H
          have c4b0 : decide (x13_1 < (l0.length : Int)) = true := decide_eq_true c4
          clear c4
          by_cases c5 : 0 ≤ x13_1
          · rw [if_pos c5] at H
            have c5b0 : decide (0 ≤ x13_1) = true := decide_eq_true c5
            clear c5
            by_cases c6 : x13_1 < (l0.length : Int)
            · rw [if_pos c6] at H
              have c6b0 : decide (x13_1 < (l0.length : Int)) = true := decide_eq_true c6
              clear c6
              by_cases c7 : x13_1 < (l1.length : Int)
              · rw [if_pos c7] at H
                have c7b0 : decide (x13_1 < (l1.length : Int)) = true := decide_eq_true c7
                clear c7
                by_cases c8 : (rd l0 x13_1) = (rd l1 x13_1)
                · rw [if_pos c8] at H
                  have c8b0 : ((rd l0 x13_1) == (rd l1 x13_1)) = true := beq_iff_eq.mpr c8
                  have c8b1 : ((rd l0 x13_1) != (rd l1 x13_1)) = false := bne_eq_false_iff_eq.mpr c8
                  clear c8
                  have H' := Aside0.mk H
                  clear H
                  have p138 : 0 ≤ (x13_1 : Int) := of_decide_eq_true (by first | (with_reducible assumption) | assumption)
                  have q138 : x13_1 < (l0.length : Int) := of_decide_eq_true (by first | (with_reducible assumption) | assumption)
                  obtain ⟨ad138, e138, hx138_0⟩ := Kd.at_int HR0.out x13_1 p138 q138
                  cases e138
                  replace p138 := eq_true p138
                  replace q138 := eq_true q138
                  have p139 : 0 ≤ (x13_1 : Int) := of_decide_eq_true (by first | (with_reducible assumption) | assumption)
                  have q139 : x13_1 < (l1.length : Int) := of_decide_eq_true (by first | (with_reducible assumption) | assumption)
                  obtain ⟨ad139, e139, hx139_0⟩ := Kd.at_int HR1.out x13_1 p139 q139
                  cases e139
                  replace p139 := eq_true p139
                  replace q139 := eq_true q139
                  go_wp2
                  repeat (go_quiet (fail); try go_wp2)
                  go_roundg k1
                  case measure => have := HK1.out; omega
                  case rel => exact ⟨(wrap64 (x13_1 + 1)), (by first | rfl | (simp; done) | (simp [*]; done)), H', ⟨by have := HK1.out; omega⟩, by repeat (first | exact Drawn0.refl _ | apply Drawn0.step)⟩
                · rw [if_neg c8] at H
                  have c8b0 : ((rd l0 x13_1) == (rd l1 x13_1)) = false := beq_eq_false_iff_ne.mpr c8
                  have c8b1 : ((rd l0 x13_1) != (rd l1 x13_1)) = true := bne_iff_ne.mpr c8
                  obtain rfl := Option.some.inj H
                  have p138 : 0 ≤ (x13_1 : Int) := of_decide_eq_true (by first | (with_reducible assumption) | assumption)
                  have q138 : x13_1 < (l0.length : Int) := of_decide_eq_true (by first | (with_reducible assumption) | assumption)
                  obtain ⟨ad138, e138, hx138_0⟩ := Kd.at_int HR0.out x13_1 p138 q138
                  cases e138
                  replace p138 := eq_true p138
                  replace q138 := eq_true q138
                  have p139 : 0 ≤ (x13_1 : Int) := of_decide_eq_true (by first | (with_reducible assumption) | assumption)
                  have q139 : x13_1 < (l1.length : Int) := of_decide_eq_true (by first | (with_reducible assumption) | assumption)
                  obtain ⟨ad139, e139, hx139_0⟩ := Kd.at_int HR1.out x13_1 p139 q139
                  cases e139
                  replace p139 := eq_true p139
                  replace q139 := eq_true q139
                  go_wp2
                  repeat (go_quiet (fail); try go_wp2)
                  go_ret
                  exact ⟨by first | rfl | (simp; done) | (simp [*]; done), by repeat (first | exact Drawn0.refl _ | apply Drawn0.step)⟩
              · rw [if_neg c7] at H
                exact absurd H (by simp)
            · rw [if_neg c6] at H
              exact absurd H (by simp)
          · rw [if_neg c5] at H
            exact absurd H (by simp)
        · rw [if_neg c4] at H
          have c4b0 : decide (x13_1 < (l0.length : Int)) = false := decide_eq_false c4
          clear c4
          obtain rfl := Option.some.inj H
          go_wp2
          repeat (go_quiet (fail); try go_wp2)
          go_ret
          exact ⟨by first | rfl | (simp; done) | (simp [*]; done), by repeat (first | exact Drawn0.refl _ | apply Drawn0.step)⟩
  · rw [if_neg c3] at H
    have c3b0 : ((l0.length : Int) == (l1.length : Int)) = false := beq_eq_false_iff_ne.mpr c3
    have c3b1 : ((l0.length : Int) != (l1.length : Int)) = true := bne_iff_ne.mpr c3
    have c3b2 : (l0.length == l1.length) = false := by first | simpa using c3 | (simp at c3 ⊢; omega)
    obtain rfl := Option.some.inj H
    go_enter Try.func98, Try.ntmps98
    go_wp2
    repeat (go_quiet (fail); try go_wp2)
    go_ret
    exact ⟨by first | rfl | (simp; done) | (simp [*]; done), by repeat (first | exact Drawn0.refl _ | apply Drawn0.step)⟩

/-! ### impl_ascending: function 99 -/
def impl_ascending.l0 : Nat → List Int → Int → Int → Option (List Int)
  | 0, _, _, _ => none
  | k + 1, x3, x6, x7 => if x7 < x6 then (if x3.length < 17592186044416 then (impl_ascending.l0 k (x3 ++ [x7]) x6 (wrap64 (x7 + 1))) else (none)) else (some x3)
def impl_ascending.f (k : Nat) (a0 : Int) : Option (List Int) := impl_ascending.l0 k (([] : List Int)) a0 0
theorem impl_ascending.mono_l : ∀ k, (∀ y0 y1 y2, LeO (impl_ascending.l0 k y0 y1 y2) (impl_ascending.l0 (k + 1) y0 y1 y2))
  | 0 => fun _ _ _ r h => by simp [impl_ascending.l0] at h
  | k + 1 => by
    have ih0 := impl_ascending.mono_l k
    · intro y0 y1 y2
      unfold impl_ascending.l0
      repeat' first
      | (with_reducible exact ih0 _ _ _)
      | (with_reducible exact LeO.refl _)
      | (with_reducible exact LeO.none _)
      | (with_reducible refine LeO.ite ?_ ?_)
      | (with_reducible refine LeO.bind ?_ (fun _ => ?_))
      | exact ih0 _ _ _
      | exact LeO.none _
      | refine LeO.ite ?_ ?_
      | refine LeO.bind ?_ (fun _ => ?_)
theorem impl_ascending.mono : ∀ a0 k, LeO (impl_ascending.f k a0) (impl_ascending.f (k + 1) a0) := by
  intro a0 k
  have ih0 := impl_ascending.mono_l k
  unfold impl_ascending.f
  repeat' first
      | (with_reducible exact ih0 _ _ _)
      | (with_reducible exact LeO.refl _)
      | (with_reducible exact LeO.none _)
      | (with_reducible refine LeO.ite ?_ ?_)
      | (with_reducible refine LeO.bind ?_ (fun _ => ?_))
      | exact ih0 _ _ _
      | exact LeO.none _
      | refine LeO.ite ?_ ?_
      | refine LeO.bind ?_ (fun _ => ?_)
set_option maxHeartbeats 8000000 in
set_option maxRecDepth 100000 in
theorem impl_ascending.calls (k : Nat) (a0 : Int) (r : List Int) (w : World) (h : impl_ascending.f k a0 = some r) :
    Calls Try.prog 99 #[.int .i64 a0] w fun e w' => ∃ v0_ : Value, e = .returned (v0_) ∧ Kd.R (Kd.int .i64) 2 w' w.heap.size (fun _ => True) v0_ r ∧ Below w.heap.size w w' := by
  have HB := Aside0.mk (Below.refl w.heap.size w)
  have H : (impl_ascending.l0 k (([] : List Int)) a0 0) = some r := h
  clear h
  obtain ⟨y140, hy140⟩ : ∃ y_ : List Int, y_ = (([] : List Int)) := ⟨_, rfl⟩
  replace H : (impl_ascending.l0 k y140 a0 0) = some r := by first | (rw [hy140]; with_reducible exact H) | (have H2_ := (Option.bind_some _ _).symm.trans H; rw [hy140]; with_reducible exact H2_) | (have H2_ := (Option.bind_some _ _).symm.trans H; with_reducible exact H2_) | with_reducible exact H | (rw [hy140]; exact H) | exact H
  have Ny140 := Aside0.mk hy140
  clear hy140
  have H' := Aside0.mk H
  clear H
  go_enter Try.func99, Try.ntmps99
  go_wp2_with (first | ((with_reducible refine gate_dst (N := 5) rfl ?_); refine Kd.R_lit (Kd.int .i64) _ 2 ?hg (N := 5) ?hd (xs := ([] : List Int)) (inner := []) (ok := fun _ => True) (okp := fun _ => True) ?hr ?hp (fun _ hk => hk) trivial (Below.refl _ _) (Nat.le_refl _) (by simp) ?_; (case hd => rfl); (case hg => rfl); (case hr => first | (go_simp; done) | (go_simp; rfl)); (case hp => exact (Reps.none _ _)); intro v141 w2 ho3 hb hg_ hnew_; clear hg_ hnew_; (first | rw [← Ny140.out] at ho3 | (simp only [Int.reduceToNat] at ho3; rw [← Ny140.out] at ho3)); have n0_ := Aside0.mk (Kd.R_lower ho3 (below_size (by repeat (first | (with_reducible first | exact HB.out | apply below_alloc | apply pw_below_drewN | apply below_drew1) | exact HB.out)))); have n1_ := Aside0.mk (below_step (by repeat (first | (with_reducible first | exact HB.out | apply below_alloc | apply pw_below_drewN | apply below_drew1) | exact HB.out)) hb); clear HB; have HO142 := n0_; have HB := n1_; clear n0_ n1_; clear hb ho3))
  go_loopg [3, 7] k (fun kq v3 v7 w' => ∃ (x3_1 : List Int) (x7_1 : Int), v7 = .int .i64 x7_1 ∧ Aside0 (impl_ascending.l0 kq x3_1 a0 x7_1 = some r) ∧ Aside0 (kq ≤ k) ∧ Aside0 (Kd.R (Kd.int .i64) 2 w' w.heap.size (fun _ => True) v3 x3_1) ∧ Aside0 (Below w.heap.size w w'))
  case atStart => exact ⟨(y140), (0), (by first | rfl | (simp; done) | (simp [*]; done)), H', ⟨Nat.le_refl _⟩, ⟨by (with_reducible repeat (first | apply Kd.R_alloc | apply Kd.R_drewN | apply Kd.R_drew)); exact HO142.out⟩, ⟨by repeat (first | (with_reducible first | exact HB.out | apply below_alloc | apply pw_below_drewN | apply below_drew1) | exact HB.out)⟩⟩
  case round =>
    clear H'
    try clear p2
    obtain ⟨x3_1, x7_1, rfl, HA, HK1, HO_3, HB⟩ := hrel
    cases gk with
    | zero => exact absurd HA.out (by simp [impl_ascending.l0])
    | succ k1 =>
      have H := HA.out
      clear HA
      simp only [impl_ascending.l0] at H
      by_cases c4 : x7_1 < a0
      · rw [if_pos c4] at H
        have c4b0 : decide (x7_1 < a0) = true := decide_eq_true c4
        clear c4
        by_cases c5 : x3_1.length < 17592186044416
        · rw [if_pos c5] at H
          have LMc5 := Aside0.mk c5
          clear c5
          obtain ⟨y143, hy143⟩ : ∃ y_ : List Int, y_ = (x3_1 ++ [x7_1]) := ⟨_, rfl⟩
          replace H : (impl_ascending.l0 k1 y143 a0 (wrap64 (x7_1 + 1))) = some r := by first | (rw [hy143]; with_reducible exact H) | (have H2_ := (Option.bind_some _ _).symm.trans H; rw [hy143]; with_reducible exact H2_) | (have H2_ := (Option.bind_some _ _).symm.trans H; with_reducible exact H2_) | with_reducible exact H | (rw [hy143]; exact H) | exact H
          have Ny143 := Aside0.mk hy143
          clear hy143
          have H' := Aside0.mk H
          clear H
          go_wp2_with (first | ((with_reducible refine gate_builtin (b := .append) (xs := #[.tmp 10, .tmp 12]) rfl ?_); at_builtin; refine Kd.R_append (Kd.int .i64) (w0 := w) w.heap.size rfl (.tmp 10) (.tmp 12) 24 2 (.int .i64 0) 8 rfl Try.underlying24 info2 rfl (by decide) (by omega) u3 x3_1 x7_1 [.int .i64 x7_1] (fun _ => True) (fun _ => False) rfl rfl ?aP (fun _ hk => hk.elim) ?aF ?aO ?aB ?aS ?aL ?_; (case aP => exact rfl); (case aB => exact (by repeat (first | (with_reducible first | exact HB.out | apply below_alloc | apply pw_below_drewN | apply below_drew1) | exact HB.out))); (case aF => exact (fun _ _ => trivial)); (case aO => exact (by (with_reducible repeat (first | apply Kd.R_alloc | apply Kd.R_drewN | apply Kd.R_drew)); exact HO_3.out)); (case aS => exact (below_size (by repeat (first | (with_reducible first | exact HB.out | apply below_alloc | apply pw_below_drewN | apply below_drew1) | exact HB.out)))); (case aL => have := LMc5.out; omega); intro v144 w6 ho hb hg hat; rw [← Ny143.out] at ho; have n0_ := Aside0.mk (hb); have n1_ := Aside0.mk (ho); clear HB; clear HO_3; have HB := n0_; have HO145 := n1_; clear n0_ n1_; clear ho hb hg hat))
          go_roundg k1
          case measure => have := HK1.out; omega
          case rel => exact ⟨(y143), (wrap64 (x7_1 + 1)), (by first | rfl | (simp; done) | (simp [*]; done)), H', ⟨by have := HK1.out; omega⟩, ⟨by (with_reducible repeat (first | apply Kd.R_alloc | apply Kd.R_drewN | apply Kd.R_drew)); exact HO145.out⟩, ⟨by repeat (first | (with_reducible first | exact HB.out | apply below_alloc | apply pw_below_drewN | apply below_drew1) | exact HB.out)⟩⟩
        · rw [if_neg c5] at H
          exact absurd H (by simp)
      · rw [if_neg c4] at H
        have c4b0 : decide (x7_1 < a0) = false := decide_eq_false c4
        clear c4
        obtain rfl := Option.some.inj H
        go_wp2
        go_ret
        exact ⟨_, by first | rfl | (simp [errW_none, errW_some] <;> rfl) | (simp [*, errW_none, errW_some] <;> rfl), by (with_reducible repeat (first | apply Kd.R_alloc | apply Kd.R_drewN | apply Kd.R_drew)); exact HO_3.out, by repeat (first | (with_reducible first | exact HB.out | apply below_alloc | apply pw_below_drewN | apply below_drew1) | exact HB.out)⟩

/-! ### impl_isOrderOf: function 69: by hand -/
/-- The numbers below n in their order. -/
def rngL (n : Nat) : List Int := (List.range n).map (fun i : Nat => (i : Int))
theorem rngL_succ (n : Nat) : rngL (n + 1) = rngL n ++ [(n : Int)] := by unfold rngL; rw [List.range_succ, List.map_append]; rfl
theorem rngL_len (n : Nat) : (rngL n).length = n := by unfold rngL; rw [List.length_map, List.length_range]
theorem isOrderOf_wid {x : Int} (h1 : -9223372036854775808 ≤ x) (h2 : x < 9223372036854775808) : wrap64 x = x := by unfold wrap64; omega
theorem ascending_l (n : Nat) (hn : n ≤ 1048576) (d : Nat) : ∀ i : Nat, n - i = d → i ≤ n → Ev (fun k => impl_ascending.l0 k (rngL i) (n : Int) (i : Int)) (rngL n) := by
  induction d with
  | zero =>
    intro i hd hi
    obtain rfl : i = n := by omega
    exact Ev.step (f := fun _ => some (rngL i)) (fun k => by rw [impl_ascending.l0, if_neg (by omega)]) (Ev.now _)
  | succ d ih =>
    intro i hd hi
    have hl := rngL_len i
    have hx := ih (i + 1) (by omega) (by omega)
    rw [rngL_succ] at hx
    have e := Aside0.mk (show wrap64 ((i : Int) + 1) = ((i + 1 : Nat) : Int) by rw [isOrderOf_wid (by omega) (by omega)]; omega)
    refine Ev.step (fun k => ?_) hx
    rw [impl_ascending.l0, if_pos (by omega), if_pos (by omega), e.out]
theorem ascending_is (n : Nat) (hn : n ≤ 1048576) : ∃ k, impl_ascending.f k (n : Int) = some (rngL n) := Ev.rounds (by
  have := ascending_l n hn n 0 (by omega) (by omega)
  exact this)
theorem equal_l (a b : List Int) (hab : a.length = b.length) (ha : a.length ≤ 1048576) (d : Nat) : ∀ i : Nat, a.length - i = d → i ≤ a.length → Ev (fun k => slices_Equal_int64_int64.l0 k a b (a.length : Int) (i : Int)) (decide (a.drop i = b.drop i)) := by
  induction d with
  | zero =>
    intro i hd hi
    rw [List.drop_eq_nil_of_le (by omega), List.drop_eq_nil_of_le (by omega), decide_eq_true rfl]
    exact Ev.step (f := fun _ => some true) (fun k => by rw [slices_Equal_int64_int64.l0, if_neg (by omega)]) (Ev.now _)
  | succ d ih =>
    intro i hd hi
    have h1 : i < a.length := by omega
    have h2 : i < b.length := by omega
    have ea : a.drop i = rd a (i : Int) :: a.drop (i + 1) := by unfold rd; rw [Int.toNat_natCast, List.drop_eq_getElem_cons h1, List.getD_eq_getElem?_getD, List.getElem?_eq_getElem h1]; rfl
    have eb : b.drop i = rd b (i : Int) :: b.drop (i + 1) := by unfold rd; rw [Int.toNat_natCast, List.drop_eq_getElem_cons h2, List.getD_eq_getElem?_getD, List.getElem?_eq_getElem h2]; rfl
    have hx := ih (i + 1) (by omega) (by omega)
    have e := Aside0.mk (show wrap64 ((i : Int) + 1) = ((i + 1 : Nat) : Int) by rw [isOrderOf_wid (by omega) (by omega)]; omega)
    have g1 : (i : Int) < (a.length : Int) := by omega
    have g2 : (0 : Int) ≤ (i : Int) := by omega
    have g3 : (i : Int) < (b.length : Int) := by omega
    rw [ea, eb]
    by_cases q : rd a (i : Int) = rd b (i : Int)
    · have ed : decide (rd a (i : Int) :: a.drop (i + 1) = rd b (i : Int) :: b.drop (i + 1)) = decide (a.drop (i + 1) = b.drop (i + 1)) := by rw [q]; simp
      rw [ed]
      refine Ev.step (fun k => ?_) hx
      rw [slices_Equal_int64_int64.l0, if_pos g1, if_pos g2, if_pos g1, if_pos g3, if_pos q, e.out]
    · have ed : decide (rd a (i : Int) :: a.drop (i + 1) = rd b (i : Int) :: b.drop (i + 1)) = false := decide_eq_false (fun h => q (List.cons.inj h).1)
      rw [ed]
      exact Ev.step (f := fun _ => some false) (fun k => by rw [slices_Equal_int64_int64.l0, if_pos g1, if_pos g2, if_pos g1, if_pos g3, if_neg q]) (Ev.now _)
theorem equal_is (a b : List Int) (ha : a.length ≤ 1048576) : ∃ k, slices_Equal_int64_int64.f k a b = some (decide (a = b)) := Ev.rounds (by
  unfold slices_Equal_int64_int64.f
  by_cases h : a.length = b.length
  · have := equal_l a b h ha a.length 0 (by omega) (by omega)
    rw [List.drop_zero, List.drop_zero] at this
    simp only [if_pos (show (a.length : Int) = (b.length : Int) by omega)]
    exact this
  · simp only [if_neg (show ¬ (a.length : Int) = (b.length : Int) by omega)]
    rw [decide_eq_false (fun e => h (by rw [e]))]
    exact Ev.now _)
/-- The list has each number below n once. -/
def ordB (l : List Int) (n : Int) : Bool := decide ((l.length : Int) = n) && decide ((l.mergeSort fun x y => decide (x ≤ y)) = rngL n.toNat)
section
attribute [local go_sem] Oper.semAt_some
set_option maxRecDepth 100000 in
set_option maxHeartbeats 4000000 in
theorem impl_isOrderOf.at_ (A0 : Option Addr) (c0 : Nat) (l0 : List Int) (a1 : Int) (w : World) (hr0 : Kd.C (Kd.int .i64) w A0 l0.length l0) (hc0 : l0.length ≤ c0) (hlen : l0.length ≤ 1048576) :
    Calls Try.prog 69 #[.slice A0 l0.length c0, .int .i64 a1] w fun e w' => e = .returned (.bool (ordB l0 a1)) ∧ Below w.heap.size w w' := by
  have HL := Aside0.mk (impl_length_int64_55.calls A0 c0 l0 (l0.length : Int) w hr0 hc0 rfl)
  by_cases hq : (l0.length : Int) = a1
  case neg =>
    have he : ordB l0 a1 = false := by unfold ordB; rw [decide_eq_false hq, Bool.false_and]
    rw [he]
    have hd : ((l0.length : Int) == a1) = false := beq_eq_false_iff_ne.2 hq
    have HL2 := HL.out
    clear hq he HL hr0
    go_enter Try.func69, Try.ntmps69
    go_wp2_with fail
    refine HL2.mono ?_
    clear HL2
    rintro e w' ⟨rfl, ⟨nd, rfl⟩⟩
    go_wp2_with fail
    go_ret
    exact ⟨rfl, pw_below_drewN (Below.refl _ _) _⟩
  case pos =>
    have he : ordB l0 a1 = decide ((l0.mergeSort fun x y => decide (x ≤ y)) = rngL l0.length) := by unfold ordB; rw [decide_eq_true hq, Bool.true_and, ← hq, Int.toNat_natCast]
    rw [he]
    have hd : ((l0.length : Int) == a1) = true := beq_iff_eq.2 hq
    obtain ⟨kA, hA⟩ := ascending_is l0.length hlen
    obtain ⟨kE, hE⟩ := equal_is (l0.mergeSort fun x y => decide (x ≤ y)) (rngL l0.length) (by rw [List.length_mergeSort]; exact hlen)
    rw [hq] at hA
    have HA := Aside0.mk hA
    have HE := Aside0.mk hE
    have HR := Aside0.mk hr0
    have hlen' := Aside0.mk hlen
    refine (callsIn_wide (n := 9)).1 ?_
    have cL := HL.out
    have cV : ∀ W, CallsIn Fence.wide 8 Try.prog 94 #[.slice A0 l0.length c0] W fun e w' => e = .returned (.func (.func 110) #[] #[.pointer (some ⟨W.heap.size, 0, none⟩)]) ∧ w' = W.alloc (.cells #[.slice A0 l0.length c0] 24) := fun W => SetOf.values_in Fence.wide 8 trivial rfl _ _ _ W
    have cS : ∀ q, CallsIn Fence.wide 8 Try.prog 93 #[.func (.func 110) #[] #[.pointer (some ⟨w.heap.size, 0, none⟩)]] ((w.drewN q).alloc (.cells #[.slice A0 l0.length c0] 24)) _ := fun q =>
      SetOf.sorted_in 8 (by omega) 110 #[.pointer (some ⟨w.heap.size, 0, none⟩)] (enters_of Try.func110 (by kernel_rfl) rfl) (fun ys => ys = l0) (fun pre => pre <+: l0) l0.length hlen (fun ss h => by rw [h]; exact hlen) w ((w.drewN q).alloc (.cells #[.slice A0 l0.length c0] 24)) ((pw_below_drewN (Below.refl _ w) q).alloc (Nat.le_refl _) _)
        (SetOf.values_stops Fence.wide 5 trivial rfl (by omega) w.heap.size w A0 c0 l0 hr0 hlen _ ((pw_below_drewN (Below.refl _ w) q).alloc (Nat.le_refl _) _) (by simp) (Boxed.new (w.drewN q) 24 (.slice A0 l0.length c0)).cell)
    have cA : ∀ W, CallsIn Fence.wide 8 Try.prog 99 #[.int .i64 a1] W _ := fun W => callsIn_wide.2 (impl_ascending.calls kA a1 (rngL l0.length) W HA.out)
    clear hA hE hr0 hlen hq he HL
    have hf55 : Fence.wide.fn 55 := trivial
    have hf93 : Fence.wide.fn 93 := trivial
    have hf94 : Fence.wide.fn 94 := trivial
    have hf98 : Fence.wide.fn 98 := trivial
    have hf99 : Fence.wide.fn 99 := trivial
    refine callsIn_of_wp Try.func69 rfl trivial ?_ rfl
    simp only [Try.ntmps69, List.size_toArray, List.length_cons, List.length_nil, Nat.reduceAdd, Nat.reduceSub, Array.replicate_succ, Array.replicate_zero, List.push_toArray, List.append_toArray, List.nil_append, List.cons_append]
    gi_wp2_with (first
      | (gi_at_call 55; refine (callsIn_wide.2 cL).mono ?_; rintro e w' ⟨rfl, ⟨nd, rfl⟩⟩)
      | (gi_at_call 94; refine (cV _).mono ?_; rintro e w' ⟨rfl, rfl⟩)
      | (gi_at_call 93; refine (cS _).mono ?_; rintro e W ⟨v, ss, ts, rfl, hss, hts, hrow, hb⟩))
    subst hss
    subst hts
    have hb2 : Below w.heap.size w W := (((pw_below_drewN (Below.refl _ w) nd).alloc (Nat.le_refl _) _)).trans (hb.mono (by simp))
    have hR : Kd.R (Kd.int .i64) 2 W _ (fun _ => True) v (ss.mergeSort fun x y => decide (x ≤ y)) := Kd.R_of_own hrow (fun _ _ => trivial)
    obtain ⟨A2, c2, ev, hc2, hC2⟩ := Kd.R_reads hR
    subst ev
    refine (cA W).mono ?_
    rintro e W2 ⟨v3, rfl, hR3, hb3⟩
    have hC3 := Kd.C_below hC2 hb3
    obtain ⟨A4, c4, ev4, hc4, hC4⟩ := Kd.R_reads hR3
    subst ev4
    have hb4 : Below w.heap.size w W2 := hb2.trans (hb3.mono hb2.size)
    have cE := fun W0 (hW : W0 = W2) => slices_Equal_int64_int64.calls kE A2 c2 (ss.mergeSort fun x y => decide (x ≤ y)) A4 c4 (rngL ss.length) _ W0 (by rw [hW]; exact hC3) hc2 (by rw [hW]; exact hC4) hc4 HE.out
    have HB := Aside0.mk hb4
    have HCE := Aside0.mk (cE W2 rfl)
    clear hrow hR hC2 hC3 hR3 hC4 hb hb2 hb3 hb4 cE cS cA cV cL HE HA hc2 hc4
    obtain ⟨rr, hrr⟩ : ∃ rr, rr = decide ((ss.mergeSort fun x y => decide (x ≤ y)) = rngL ss.length) := ⟨_, rfl⟩
    rw [← hrr] at HCE
    have HRR := Aside0.mk hrr
    clear hrr
    generalize (ss.mergeSort fun x y => decide (x ≤ y)).length = m1 at HCE ⊢
    generalize (rngL ss.length).length = m2 at HCE ⊢
    gi_wp2_with (first
      | (gi_at_call 98; refine (callsIn_wide.2 HCE.out).mono ?_; rintro e w' ⟨rfl, ⟨nd2, rfl⟩⟩))
    go_ret
    exact ⟨by rw [← HRR.out]; rfl, pw_below_drewN HB.out _⟩
end
def impl_isOrderOf.f (l0 : List Int) (a1 : Int) : Option Bool := if l0.length ≤ 1048576 then some (ordB l0 a1) else none
theorem impl_isOrderOf.calls (A0 : Option Addr) (c0 : Nat) (l0 : List Int) (a1 : Int) (r : Bool) (w : World) (hr0 : Kd.C (Kd.int .i64) w A0 l0.length l0) (hc0 : l0.length ≤ c0) (h : impl_isOrderOf.f l0 a1 = some r) :
    Calls Try.prog 69 #[.slice A0 l0.length c0, .int .i64 a1] w fun e w' => e = .returned (.bool r) ∧ Below w.heap.size w w' := by
  unfold impl_isOrderOf.f at h
  by_cases hl : l0.length ≤ 1048576
  · rw [if_pos hl] at h
    obtain rfl := Option.some.inj h
    exact impl_isOrderOf.at_ A0 c0 l0 a1 w hr0 hc0 hl
  · rw [if_neg hl] at h
    cases h


/-! ### slices_IndexFunc_int64_int64: function 100: by hand -/
/-- The place of the first row at which p holds, counted from i; -1 if there is none. -/
def fstR (p : List Int → Bool) : List (List Int) → Nat → Int
  | [], _ => -1
  | y :: r, i => if p y = true then (i : Int) else fstR p r (i + 1)
theorem fstR_ge (p : List Int → Bool) (l : List (List Int)) : ∀ i, decide (0 ≤ fstR p l i) = l.any p := by
  induction l with
  | nil => intro i; rfl
  | cons y r ih =>
    intro i
    rw [fstR, List.any_cons]
    by_cases h : p y = true
    · rw [if_pos h, h, Bool.true_or, decide_eq_true (by omega)]
    · rw [if_neg h, Bool.eq_false_iff.mpr h, Bool.false_or, ih]
/-- A function value that decides of a row; it may make memory. -/
def DecidesR (g : Nat) (lb : Array Value) (p : List Int → Bool) (w : World) : Prop :=
  ∀ (x : List Int) (A : Option Addr) (c : Nat) (W : World), Below w.heap.size w W → Kd.C (Kd.int .i64) W A x.length x → x.length ≤ c → x.length ≤ 1048576 → Calls Try.prog g (#[.slice A x.length c] ++ lb) W fun e w' => e = .returned (.bool (p x)) ∧ Below W.heap.size W w'
set_option maxHeartbeats 2000000 in
theorem IndexFuncRows.at_ (p : List Int → Bool) (g : Nat) (lb : Array Value) (eg : ∀ args w, (callFunc g args).run Try.prog w = .ok (.enter g args) w) (A : Option Addr) (c : Nat) (xs : List (List Int)) (w : World)
    (hp : DecidesR g lb p w) (hr : Kd.C (Kd.slice 2 (Kd.int .i64)) w A xs.length xs) (hx : ∀ x ∈ xs, x.length ≤ 1048576) :
    Calls Try.prog 100 #[.slice A xs.length c, .func (.func g) #[] lb] w fun e w' => e = .returned (.int .i64 (fstR p xs 0)) ∧ Below w.heap.size w w' := by
  have hm := Kd.C_max hr
  have HP := Aside0.mk hp
  have HR := Aside0.mk hr
  have HX := Aside0.mk hx
  clear hp hr hx
  go_enter Try.func100, Try.ntmps100
  go_wp2
  go_loopg [5, 8] xs.length (fun gg _ s8 wr => ∃ kk : Nat, kk ≤ xs.length ∧ xs.length - kk ≤ gg ∧ s8 = .int .i64 kk ∧ Aside0 (Below w.heap.size w wr) ∧ Aside0 (fstR p xs 0 = fstR p (xs.drop kk) kk))
  case atStart => exact ⟨0, Nat.zero_le _, by omega, rfl, ⟨Below.refl _ _⟩, ⟨rfl⟩⟩
  case round =>
    obtain ⟨kk, hkk, hg, rfl, HB, A1⟩ := hrel
    by_cases hlt : kk < xs.length
    · have hltz : (kk : Int) < (xs.length : Int) := by omega
      have hCb := Kd.C_below HR.out HB.out
      obtain ⟨ad, cs, e1, _, hK, hc0⟩ := Kd.C_get hCb ([] : List Int) (kk : Int) (by omega) hltz
      subst e1
      have hx1 := HX.out (xs.getD ((kk : Int)).toNat []) (by rw [Int.toNat_natCast, List.getD_eq_getElem?_getD, List.getElem?_eq_getElem hlt]; exact List.getElem_mem _)
      have D : Aside0 (xs.drop kk = xs.getD ((kk : Int)).toNat [] :: xs.drop (kk + 1)) := ⟨by rw [Int.toNat_natCast, List.drop_eq_getElem_cons hlt, List.getD_eq_getElem?_getD, List.getElem?_eq_getElem hlt]; rfl⟩
      generalize xs.getD ((kk : Int)).toNat [] = y at hK hx1 D
      obtain ⟨A2, c2, rfl, hl2, hC2⟩ := hK
      have hcell : wr.cell? (ad.add kk) = some (.slice A2 y.length c2) := by
        have := hc0 0 _ rfl
        rwa [Int.toNat_natCast, show kk * (Kd.slice 2 (Kd.int .i64)).sz + 0 = kk by show kk * 1 + 0 = kk; omega] at this
      have HC := Aside0.mk (HP.out y A2 c2 wr HB.out hC2 hl2 hx1)
      clear hc0 hC2 hl2 hx1 hCb
      cases hq : p y with
      | true =>
        have A2' : Aside0 (fstR p xs 0 = (kk : Int)) := ⟨by rw [A1.out, D.out, fstR, if_pos hq]⟩
        have HC2 := HC.out
        rw [hq] at HC2
        clear hq HC
        go_wp2_with fail
        refine HC2.mono ?_
        clear HC2
        rintro e w' ⟨rfl, hb⟩
        have HB2 := Aside0.mk (below_step HB.out hb)
        clear hb
        go_wp2_with fail
        go_ret
        exact ⟨congrArg (fun z => Ending.returned (.int .i64 z)) A2'.out.symm, HB2.out⟩
      | false =>
        have A2' : Aside0 (fstR p xs 0 = fstR p (xs.drop (kk + 1)) (kk + 1)) := ⟨by rw [A1.out, D.out, fstR, if_neg (by rw [hq]; decide)]⟩
        have HC2 := HC.out
        rw [hq] at HC2
        clear hq HC
        go_wp2_with fail
        refine HC2.mono ?_
        clear HC2
        rintro e w' ⟨rfl, hb⟩
        have HB2 := Aside0.mk (below_step HB.out hb)
        clear hb
        go_wp2_with fail
        go_roundg (xs.length - (kk + 1))
        case measure => omega
        case rel => exact ⟨kk + 1, by omega, by omega, by go_num, HB2, A2'⟩
    · have hltz : ¬ (kk : Int) < (xs.length : Int) := by omega
      have A2' : Aside0 (fstR p xs 0 = -1) := ⟨by rw [A1.out, List.drop_eq_nil_of_le (by omega), fstR]⟩
      go_wp2
      go_ret
      exact ⟨congrArg (fun z => Ending.returned (.int .i64 z)) A2'.out.symm, HB.out⟩


/-! ### slices_ContainsFunc_int64_int64: function 70: by hand -/
theorem ContainsFuncRows.has (p : List Int → Bool) (g : Nat) (lb : Array Value) (eg : ∀ args w, (callFunc g args).run Try.prog w = .ok (.enter g args) w) (A : Option Addr) (c : Nat) (xs : List (List Int)) (w : World)
    (hp : DecidesR g lb p w) (hr : Kd.C (Kd.slice 2 (Kd.int .i64)) w A xs.length xs) (hx : ∀ x ∈ xs, x.length ≤ 1048576) :
    Calls Try.prog 70 #[.slice A xs.length c, .func (.func g) #[] lb] w fun e w' => e = .returned (.bool (xs.any p)) ∧ Below w.heap.size w w' := by
  rw [← fstR_ge p xs 0]
  have hcall := IndexFuncRows.at_ p g lb eg A c xs w hp hr hx
  clear hp hr
  generalize fstR p xs 0 = r at hcall ⊢
  go_enter Try.func70, Try.ntmps70
  go_wp2_with fail
  refine hcall.mono ?_
  clear hcall
  rintro e w' ⟨rfl, hb⟩
  have HB := Aside0.mk hb
  clear hb
  go_wp2_with fail
  go_ret
  exact ⟨rfl, HB.out⟩


/-! ### impl_ValidPolicy: function 35: by hand -/
theorem impl_ValidPolicy.closure (ways : Int) (b : Nat) (w : World) (hb : w.cell? ⟨b, 0, none⟩ = some (.int .i64 ways)) (hlt : b < w.heap.size) : DecidesR 71 #[.pointer (some ⟨b, 0, none⟩)] (fun x => !ordB x ways) w := by
  intro x A c W hB hC hc hl
  have hcell := (hB.cell (p := ⟨b, 0, none⟩) hlt).trans hb
  have HC := Aside0.mk (impl_isOrderOf.at_ A c x ways W hC hc hl)
  show Calls Try.prog 71 #[.slice A x.length c, .pointer (some ⟨b, 0, none⟩)] W fun e w' => e = .returned (.bool (!ordB x ways)) ∧ Below W.heap.size W w'
  generalize ordB x ways = r at HC ⊢
  clear hB hC hb
  have HC2 := HC.out
  clear HC
  go_enter Try.func71, Try.ntmps71
  go_wp2_with fail
  refine HC2.mono ?_
  clear HC2
  rintro e w' ⟨rfl, hb⟩
  have HB := Aside0.mk hb
  clear hb
  go_wp2_with fail
  go_ret
  exact ⟨rfl, HB.out⟩
/-- The policy's rows are orders. -/
def validP (l0 : List (List Int)) (l1 : List Int) : Bool := decide (1 ≤ (l1.length : Int) ∧ (l1.length : Int) ≤ 6) && (decide (l0.length = l1.length) && (ordB l1 (l1.length : Int) && l0.all fun x => ordB x (l1.length : Int)))
def impl_ValidPolicy.f (l0_0 : List (List Int)) (l0_1 : List Int) : Option Bool := if l0_1.length ≤ 1048576 ∧ (∀ x ∈ l0_0, x.length ≤ 1048576) then some (validP l0_0 l0_1) else none
theorem isWays_tells (x : Int) : impl_isWays.f x = some (decide (1 ≤ x ∧ x ≤ 6)) := by
  unfold impl_isWays.f impl_inRange.f
  by_cases h : 1 ≤ x <;> by_cases g : x ≤ 6 <;> simp [h, g]
set_option maxHeartbeats 8000000 in
set_option maxRecDepth 100000 in
theorem impl_ValidPolicy.calls (A0_0 : Option Addr) (c0_0 : Nat) (l0_0 : List (List Int)) (A0_1 : Option Addr) (c0_1 : Nat) (l0_1 : List Int) (r : Bool) (w : World) (hr0_0 : Kd.C (Kd.slice 2 (Kd.int .i64)) w A0_0 l0_0.length l0_0) (hc0_0 : l0_0.length ≤ c0_0) (hr0_1 : Kd.C (Kd.int .i64) w A0_1 l0_1.length l0_1) (hc0_1 : l0_1.length ≤ c0_1) (h : impl_ValidPolicy.f l0_0 l0_1 = some r) :
    Calls Try.prog 35 #[.agg #[.slice A0_0 l0_0.length c0_0, .slice A0_1 l0_1.length c0_1]] w fun e w' => e = .returned (.bool r) ∧ Below w.heap.size w w' := by
  unfold impl_ValidPolicy.f at h
  by_cases hl : l0_1.length ≤ 1048576 ∧ (∀ x ∈ l0_0, x.length ≤ 1048576)
  case neg => rw [if_neg hl] at h; cases h
  rw [if_pos hl] at h
  obtain rfl := Option.some.inj h
  clear h
  have HL := Aside0.mk hl
  have HR0 := Aside0.mk hr0_0
  have HR1 := Aside0.mk hr0_1
  clear hl hr0_0 hr0_1
  have hu := Try.underlying42
  have mixed : Try.prog.follows .mixedOrders = true := by kernel_rfl
  have e71 : ∀ args w, (callFunc 71 args).run Try.prog w = .ok (.enter 71 args) w := enters_of Try.func71 (by kernel_rfl) rfl
  have f67 := isWays_tells (l0_1.length : Int)
  have f69 : ∀ W : World, Kd.C (Kd.int .i64) W A0_1 l0_1.length l0_1 → Calls Try.prog 69 #[.slice A0_1 l0_1.length c0_1, .int .i64 (l0_1.length : Int)] W fun e w' => e = .returned (.bool (ordB l0_1 (l0_1.length : Int))) ∧ Below W.heap.size W w' := fun W h => impl_isOrderOf.at_ A0_1 c0_1 l0_1 _ W h hc0_1 HL.out.1
  have f70 : ∀ (b : Nat) (W : World), W.cell? ⟨b, 0, none⟩ = some (.int .i64 (l0_1.length : Int)) → b < W.heap.size → Kd.C (Kd.slice 2 (Kd.int .i64)) W A0_0 l0_0.length l0_0 → Calls Try.prog 70 #[.slice A0_0 l0_0.length c0_0, .func (.func 71) #[] #[.pointer (some ⟨b, 0, none⟩)]] W fun e w' => e = .returned (.bool (l0_0.any fun x => !ordB x (l0_1.length : Int))) ∧ Below W.heap.size W w' := fun b W h1 h2 h3 =>
    ContainsFuncRows.has (fun x => !ordB x (l0_1.length : Int)) 71 #[.pointer (some ⟨b, 0, none⟩)] e71 A0_0 c0_0 l0_0 W (impl_ValidPolicy.closure _ _ _ h1 h2) h3 HL.out.2
  have hd : decide (l0_0.length = l0_1.length) = ((l0_0.length : Int) == (l0_1.length : Int)) := by
    rw [Bool.eq_iff_iff, decide_eq_true_eq, beq_iff_eq]
    omega
  have he : validP l0_0 l0_1 = (decide (1 ≤ (l0_1.length : Int) ∧ (l0_1.length : Int) ≤ 6) && (((l0_0.length : Int) == (l0_1.length : Int)) && (ordB l0_1 (l0_1.length : Int) && !(l0_0.any fun x => !ordB x (l0_1.length : Int))))) := by
    unfold validP
    rw [List.all_eq_not_any_not, hd]
  rw [he]
  generalize (l0_0.any fun x => !ordB x (l0_1.length : Int)) = b4 at f70 ⊢
  generalize ordB l0_1 (l0_1.length : Int) = b3 at f69 ⊢
  generalize decide (1 ≤ (l0_1.length : Int) ∧ (l0_1.length : Int) ≤ 6) = b1 at f67 ⊢
  generalize hb2 : ((l0_0.length : Int) == (l0_1.length : Int)) = b2
  clear hd he e71
  go_enter Try.func35, Try.ntmps35
  go_wp2_with fail
  refine (impl_length_int64_55.calls A0_1 c0_1 l0_1 _ _ (Kd.C_alloc HR1.out _) hc0_1 rfl).mono ?_
  rintro e w' ⟨rfl, ⟨nd, rfl⟩⟩
  go_wp2_with fail
  have hB : Below w.heap.size w (((w.alloc (.cells #[.slice A0_0 l0_0.length c0_0, .slice A0_1 l0_1.length c0_1] 42)).drewN nd).alloc (.cells #[.int .i64 (l0_1.length : Int)] 2)) := below_alloc (pw_below_drewN (below_alloc (Below.refl _ w) _) nd) _
  have hS1 : ((w.alloc (.cells #[.slice A0_0 l0_0.length c0_0, .slice A0_1 l0_1.length c0_1] 42)).drewN nd).heap.size = w.heap.size + 1 := by show (w.heap.push _).size = _; rw [Array.size_push]
  have hS : (((w.alloc (.cells #[.slice A0_0 l0_0.length c0_0, .slice A0_1 l0_1.length c0_1] 42)).drewN nd).alloc (.cells #[.int .i64 (l0_1.length : Int)] 2)).heap.size = w.heap.size + 2 := by show ((w.heap.push _).push _).size = _; rw [Array.size_push, Array.size_push]
  have k2 : (((w.alloc (.cells #[.slice A0_0 l0_0.length c0_0, .slice A0_1 l0_1.length c0_1] 42)).drewN nd).alloc (.cells #[.int .i64 (l0_1.length : Int)] 2)).cell? ⟨w.heap.size + 1, 0, none⟩ = some (.int .i64 (l0_1.length : Int)) := by rw [← hS1]; exact (Boxed.new _ 2 (.int .i64 (l0_1.length : Int))).cell
  have hbl : (((w.alloc (.cells #[.slice A0_0 l0_0.length c0_0, .slice A0_1 l0_1.length c0_1] 42)).drewN nd).alloc (.cells #[.int .i64 (l0_1.length : Int)] 2)).heap[w.heap.size]? = some (.cells #[.slice A0_0 l0_0.length c0_0, .slice A0_1 l0_1.length c0_1] 42 (0, 0)) := by
    have q : ((w.alloc (.cells #[.slice A0_0 l0_0.length c0_0, .slice A0_1 l0_1.length c0_1] 42)).drewN nd).heap[w.heap.size]? = some (.cells #[.slice A0_0 l0_0.length c0_0, .slice A0_1 l0_1.length c0_1] 42 (0, 0)) := by
      show (w.heap.push _)[w.heap.size]? = _
      simp
    rw [← q]
    exact (below_alloc (Below.refl _ ((w.alloc (.cells #[.slice A0_0 l0_0.length c0_0, .slice A0_1 l0_1.length c0_1] 42)).drewN nd)) _).block w.heap.size (by rw [hS1]; omega)
  have k0 := cell_of_row _ w.heap.size 0 _ 42 (0, 0) hbl
  have k1 := cell_of_row _ w.heap.size 1 _ 42 (0, 0) hbl
  have k0' : _ = some (Value.slice A0_0 l0_0.length c0_0) := k0
  have k1' : _ = some (Value.slice A0_1 l0_1.length c0_1) := k1
  clear k0 k1 hbl hS1
  generalize (((w.alloc (.cells #[.slice A0_0 l0_0.length c0_0, .slice A0_1 l0_1.length c0_1] 42)).drewN nd).alloc (.cells #[.int .i64 (l0_1.length : Int)] 2)) = W at *
  have r0 := cell_regrown k0'
  have r1 := cell_regrown k1'
  have r2 := cell_regrown k2
  have hC0 := Kd.C_below HR0.out hB
  have hC1 := Kd.C_below HR1.out hB
  have c67 : ∀ d os, Calls Try.prog 67 #[.int .i64 (l0_1.length : Int)] (Sort.grow (redrawn W d) os) fun e w'' => e = .returned (.bool b1) ∧ ∃ p : Regrown, w'' = Sort.grow (redrawn W p.d) p.os := fun d os =>
    Calls.regrown_of ((impl_isWays.calls (l0_1.length : Int) _ _ f67).mono (by rintro e w' ⟨rfl, ⟨q, rfl⟩⟩; exact ⟨rfl, pw_below_drewN (Below.refl _ _) _⟩))
  have c68 : ∀ d os, Calls Try.prog 68 #[.slice A0_0 l0_0.length c0_0] (Sort.grow (redrawn W d) os) fun e w'' => e = .returned (.int .i64 (l0_0.length : Int)) ∧ ∃ p : Regrown, w'' = Sort.grow (redrawn W p.d) p.os := fun d os =>
    Calls.regrown_of ((impl_length_int64_68.calls A0_0 c0_0 l0_0 _ _ (Kd.C_below hC0 (below_regrown W d os)) hc0_0 rfl).mono (by rintro e w' ⟨rfl, ⟨q, rfl⟩⟩; exact ⟨rfl, pw_below_drewN (Below.refl _ _) _⟩))
  have c69 : ∀ d os, Calls Try.prog 69 #[.slice A0_1 l0_1.length c0_1, .int .i64 (l0_1.length : Int)] (Sort.grow (redrawn W d) os) fun e w'' => e = .returned (.bool b3) ∧ ∃ p : Regrown, w'' = Sort.grow (redrawn W p.d) p.os := fun d os =>
    Calls.regrown_of (f69 _ (Kd.C_below hC1 (below_regrown W d os)))
  have c70 : ∀ d os, Calls Try.prog 70 #[.slice A0_0 l0_0.length c0_0, .func (.func 71) #[] #[.pointer (some ⟨w.heap.size + 1, 0, none⟩)]] (Sort.grow (redrawn W d) os) fun e w'' => e = .returned (.bool b4) ∧ ∃ p : Regrown, w'' = Sort.grow (redrawn W p.d) p.os := fun d os =>
    Calls.regrown_of (f70 _ _ (r2 d os) (Nat.lt_of_lt_of_le (by rw [hS]; omega) (below_regrown W d os).size) (Kd.C_below hC0 (below_regrown W d os)))
  have HB := Aside0.mk hB
  clear hC0 hC1 k0' k1' k2 hB hS HR0 HR1 HL hu f67 f69 f70
  cases b1 <;> cases b2 <;> cases b3
  all_goals
    refine wp_region_quiet_below mixed (by kernel_rfl) ?_
    repeat (quiet_step (first | exact c67 _ _ | exact c68 _ _ | exact c69 _ _ | exact c70 _ _))
    refine wpQuiet_nil ?_
    intro _ hw'
    obtain ⟨⟨dq, osq⟩, hw''⟩ := hw'
    subst hw''
    go_wp2
    go_ret
    exact ⟨by first | rfl | simp, HB.out.trans ((below_regrown W dq osq).mono HB.out.size)⟩


/-! ### impl_Policy_ways: function 89 -/
def impl_Policy_ways.f (l0_0 : List (List Int)) (l0_1 : List Int) : Option (Int) := (impl_length_int64_55.f l0_1).bind fun t147 => (some t147)
set_option maxHeartbeats 8000000 in
set_option maxRecDepth 100000 in
theorem impl_Policy_ways.calls (A0_0 : Option Addr) (c0_0 : Nat) (l0_0 : List (List Int)) (A0_1 : Option Addr) (c0_1 : Nat) (l0_1 : List Int) (r : Int) (w : World) (hr0_0 : Kd.C (Kd.slice 2 (Kd.int .i64)) w A0_0 l0_0.length l0_0) (hc0_0 : l0_0.length ≤ c0_0) (hr0_1 : Kd.C (Kd.int .i64) w A0_1 l0_1.length l0_1) (hc0_1 : l0_1.length ≤ c0_1) (h : impl_Policy_ways.f l0_0 l0_1 = some r) :
    Calls Try.prog 89 #[.agg #[.slice A0_0 l0_0.length c0_0, .slice A0_1 l0_1.length c0_1]] w fun e w' => e = .returned (.int .i64 r) ∧ Below w.heap.size w w' := by
  have hu42 := Try.underlying42
  have HR0_0 := Aside0.mk hr0_0
  have HC0_0 := Aside0.mk hc0_0
  clear hr0_0 hc0_0
  have HR0_1 := Aside0.mk hr0_1
  have HC0_1 := Aside0.mk hc0_1
  clear hr0_1 hc0_1
  have HB := Aside0.mk (Below.refl w.heap.size w)
  have H : ((impl_length_int64_55.f l0_1).bind fun t147 => (some t147)) = some r := h
  clear h
  replace H := Option.bind_eq_some_iff.mp H
  obtain ⟨t147, A20, H⟩ := H
  replace H : (some t147) = some r := H
  have A2 := Aside0.mk A20
  clear A20
  obtain rfl := Option.some.inj H
  go_enter Try.func89, Try.ntmps89
  go_wp2_with (first | ((with_reducible refine gate_dst (N := 1) rfl ?_); refine box_event ?hg (N := 1) ?hd (cs := #[.slice A0_0 l0_0.length c0_0, .slice A0_1 l0_1.length c0_1]) (t := 42) ?hr ?_; (case hd => rfl); (case hg => rfl); (case hr => first | (go_simp; done) | (go_simp; rfl)); intro gb146 hg w3 hbox hb; have n0_ := Aside0.mk (below_step (by repeat (first | (with_reducible first | exact HB.out | apply below_alloc | apply pw_below_drewN | apply below_drew1) | exact HB.out)) hb); have n1_ := Aside0.mk (hbox); have n2_ := Aside0.mk ((by rw [hg]; exact (below_size (by repeat (first | (with_reducible first | exact HB.out | apply below_alloc | apply pw_below_drewN | apply below_drew1) | exact HB.out))) : w.heap.size ≤ gb146)); have n3_ := Aside0.mk ((by rw [hg]; exact (below_size (by repeat (first | (with_reducible first | exact HB.out | apply below_alloc | apply pw_below_drewN | apply below_drew1) | exact HB.out))) : w.heap.size ≤ gb146)); clear HB; have HB := n0_; have BK146 := n1_; have GW146 := n2_; have GE146 := n3_; clear n0_ n1_ n2_ n3_; clear hb hbox hg; have hcz4_0 : w3.cell? ⟨gb146, 0, none⟩ = some (.slice A0_0 l0_0.length c0_0) := (blk_cell BK146.out 0).trans rfl; have hcz4_1 : w3.cell? ⟨gb146, 1, none⟩ = some (.slice A0_1 l0_1.length c0_1) := (blk_cell BK146.out 1).trans rfl; have hfz4_0 := blk_frozen BK146.out 0; have hfz4_1 := blk_frozen BK146.out 1) | ((with_reducible refine gate_callee (f := 55) rfl ?_); refine goesL_ (some 5) rfl rfl Try.func55 (by kernel_rfl) rfl #[.slice A0_1 l0_1.length c0_1] rfl (by (try simp only [List.map_toArray, List.map_cons, List.map_nil]); first | done | rfl | (simp only [List.length_drop, List.length_take]; rfl)) ?_; (with_reducible refine (impl_length_int64_55.calls _ _ l0_1 t147 _ ?side1 ?side2 A2.out).mono ?_); (case side1 => repeat (first | exact (Kd.C_below HR0_1.out HB.out) | (with_reducible refine Kd.C_alloc ?_ _) | (with_reducible refine Kd.C_drewN ?_ _) | (with_reducible refine Kd.C_drew ?_))); (case side2 => exact HC0_1.out); rintro e w' ⟨rfl, ⟨nd, rfl⟩⟩; refine ⟨_, rfl, ?_⟩))
  go_ret
  exact ⟨by first | rfl | (simp [errW_none, errW_some] <;> rfl) | (simp [*, errW_none, errW_some] <;> rfl), by repeat (first | (with_reducible first | exact HB.out | apply below_alloc | apply pw_below_drewN | apply below_drew1 | refine below_set ?_ GE146.out) | exact HB.out)⟩

/-! ### impl_permutedMask: function 107 -/
def impl_permutedMask.l0 : Nat → Int → Int → List Int → Int → Int → Option (Int)
  | 0, _, _, _, _, _ => none
  | k + 1, x0, x5, x8, x9, x10 => if x10 < x9 then (if 0 ≤ x10 then (if x10 < (x8.length : Int) then (if 0 ≤ (rd x8 x10) then (impl_permutedMask.l0 k x0 (Go.bits .or .i64 x5 (shl .i64 (Go.bits .and .i64 (shr .i64 x0 (rd x8 x10)) 1) x10)) x8 x9 (wrap64 (x10 + 1))) else (none)) else (none)) else (none)) else (some x5)
def impl_permutedMask.f (k : Nat) (a0 : Int) (l1 : List Int) : Option (Int) := impl_permutedMask.l0 k a0 0 l1 (l1.length : Int) 0
theorem impl_permutedMask.mono_l : ∀ k, (∀ y0 y1 y2 y3 y4, LeO (impl_permutedMask.l0 k y0 y1 y2 y3 y4) (impl_permutedMask.l0 (k + 1) y0 y1 y2 y3 y4))
  | 0 => fun _ _ _ _ _ r h => by simp [impl_permutedMask.l0] at h
  | k + 1 => by
    have ih0 := impl_permutedMask.mono_l k
    · intro y0 y1 y2 y3 y4
      unfold impl_permutedMask.l0
      repeat' first
      | (with_reducible exact ih0 _ _ _ _ _)
      | (with_reducible exact LeO.refl _)
      | (with_reducible exact LeO.none _)
      | (with_reducible refine LeO.ite ?_ ?_)
      | (with_reducible refine LeO.bind ?_ (fun _ => ?_))
      | exact ih0 _ _ _ _ _
      | exact LeO.none _
      | refine LeO.ite ?_ ?_
      | refine LeO.bind ?_ (fun _ => ?_)
theorem impl_permutedMask.mono : ∀ a0 a1 k, LeO (impl_permutedMask.f k a0 a1) (impl_permutedMask.f (k + 1) a0 a1) := by
  intro a0 a1 k
  have ih0 := impl_permutedMask.mono_l k
  unfold impl_permutedMask.f
  repeat' first
      | (with_reducible exact ih0 _ _ _ _ _)
      | (with_reducible exact LeO.refl _)
      | (with_reducible exact LeO.none _)
      | (with_reducible refine LeO.ite ?_ ?_)
      | (with_reducible refine LeO.bind ?_ (fun _ => ?_))
      | exact ih0 _ _ _ _ _
      | exact LeO.none _
      | refine LeO.ite ?_ ?_
      | refine LeO.bind ?_ (fun _ => ?_)
set_option maxHeartbeats 8000000 in
set_option maxRecDepth 100000 in
theorem impl_permutedMask.calls (k : Nat) (a0 : Int) (A1 : Option Addr) (c1 : Nat) (l1 : List Int) (r : Int) (w : World) (hr1 : Kd.C (Kd.int .i64) w A1 l1.length l1) (hc1 : l1.length ≤ c1) (h : impl_permutedMask.f k a0 l1 = some r) :
    Calls Try.prog 107 #[.int .i64 a0, .slice A1 l1.length c1] w fun e w' => e = .returned (.int .i64 r) ∧ Drawn0 w w' := by
  have HR1 := Aside0.mk hr1
  have HC1 := Aside0.mk hc1
  clear hr1 hc1
  have H : (impl_permutedMask.l0 k a0 0 l1 (l1.length : Int) 0) = some r := h
  clear h
  have H' := Aside0.mk H
  clear H
  go_enter Try.func107, Try.ntmps107
  go_wp2
  go_loopg [5, 10] k (fun kq v5 v10 w' => ∃ (x5_1 : Int) (x10_1 : Int), v5 = .int .i64 x5_1 ∧ v10 = .int .i64 x10_1 ∧ Aside0 (impl_permutedMask.l0 kq a0 x5_1 l1 (l1.length : Int) x10_1 = some r) ∧ Aside0 (kq ≤ k) ∧ Drawn0 w w')
  case atStart => exact ⟨(0), (0), (by first | rfl | (simp; done) | (simp [*]; done)), (by first | rfl | (simp; done) | (simp [*]; done)), H', ⟨Nat.le_refl _⟩, by repeat (first | exact Drawn0.refl _ | apply Drawn0.step)⟩
  case round =>
    clear H'
    try clear c1
    try clear p2
    obtain ⟨x5_1, x10_1, rfl, rfl, HA, HK1, ⟨m1, rfl⟩⟩ := hrel
    cases gk with
    | zero => exact absurd HA.out (by simp [impl_permutedMask.l0])
    | succ k1 =>
      have H := HA.out
      clear HA
      simp only [impl_permutedMask.l0] at H
      by_cases c3 : x10_1 < (l1.length : Int)
      · rw [if_pos c3] at H
        have c3b0 : decide (x10_1 < (l1.length : Int)) = true := decide_eq_true c3
        clear c3
        by_cases c4 : 0 ≤ x10_1
        · rw [if_pos c4] at H
          have c4b0 : decide (0 ≤ x10_1) = true := decide_eq_true c4
          clear c4
          by_cases c5 : x10_1 < (l1.length : Int)
          · rw [if_pos c5] at H
            have c5b0 : decide (x10_1 < (l1.length : Int)) = true := decide_eq_true c5
            clear c5
            by_cases c6 : 0 ≤ (rd l1 x10_1)
            · rw [if_pos c6] at H
              have c6b0 := eq_true c6
              have c6b1 : decide (0 ≤ (rd l1 x10_1)) = true := decide_eq_true c6
              clear c6
              obtain ⟨ji7, hji7⟩ : ∃ j_ : Int, (shr .i64 a0 (rd l1 x10_1)) = j_ := ⟨_, rfl⟩
              replace H : (impl_permutedMask.l0 k1 a0 (Go.bits .or .i64 x5_1 (shl .i64 (Go.bits .and .i64 (ji7) 1) x10_1)) l1 (l1.length : Int) (wrap64 (x10_1 + 1))) = some r := by first | (rw [hji7] at H; exact H) | (simp only [hji7] at H ⊢; exact H)
              have hji7_ : (a0 / 2 ^ min (rd l1 x10_1).toNat 64) = ji7 := hji7
              have hji7z : (rd l1 x10_1) ≤ 64 → (a0 / 2 ^ (rd l1 x10_1).toNat) = ji7 := shr_small hji7
              have c8b0 := eq_true (of_decide_eq_true (by first | (with_reducible assumption) | assumption) : 0 ≤ x10_1)
              obtain ⟨ji9, hji9⟩ : ∃ j_ : Int, (shl .i64 (Go.bits .and .i64 (ji7) 1) x10_1) = j_ := ⟨_, rfl⟩
              replace H : (impl_permutedMask.l0 k1 a0 (Go.bits .or .i64 x5_1 (ji9)) l1 (l1.length : Int) (wrap64 (x10_1 + 1))) = some r := by first | (rw [hji9] at H; exact H) | (simp only [hji9] at H ⊢; exact H)
              have hji9_ : (IntKind.i64.wrap ((Go.bits .and .i64 (ji7) 1) * 2 ^ min x10_1.toNat 64)) = ji9 := hji9
              have hji9z : x10_1 ≤ 64 → (IntKind.i64.wrap ((Go.bits .and .i64 (ji7) 1) * 2 ^ x10_1.toNat)) = ji9 := shl_small hji9
              have hji9y : (wrap64 ((Go.bits .and .i64 (ji7) 1) * 2 ^ min x10_1.toNat 64)) = ji9 := (i64_w _).symm.trans hji9_
              have hji9x : x10_1 ≤ 64 → (wrap64 ((Go.bits .and .i64 (ji7) 1) * 2 ^ x10_1.toNat)) = ji9 := fun h_ => (i64_w _).symm.trans (hji9z h_)
              have H' := Aside0.mk H
              clear H
              have p148 : 0 ≤ (x10_1 : Int) := of_decide_eq_true (by first | (with_reducible assumption) | assumption)
              have q148 : x10_1 < (l1.length : Int) := of_decide_eq_true (by first | (with_reducible assumption) | assumption)
              obtain ⟨ad148, e148, hx148_0⟩ := Kd.at_int HR1.out x10_1 p148 q148
              cases e148
              replace p148 := eq_true p148
              replace q148 := eq_true q148
              go_wp2
              go_roundg k1
              case measure => have := HK1.out; omega
              case rel => exact ⟨(Go.bits .or .i64 x5_1 (ji9)), (wrap64 (x10_1 + 1)), (by first | rfl | (simp; done) | (simp only [← hji9] <;> (first | rfl | simp)) | (simp [*]; done)), (by first | rfl | (simp; done) | (simp [*]; done)), H', ⟨by have := HK1.out; omega⟩, by repeat (first | exact Drawn0.refl _ | apply Drawn0.step)⟩
            · rw [if_neg c6] at H
              exact absurd H (by simp)
          · rw [if_neg c5] at H
            exact absurd H (by simp)
        · rw [if_neg c4] at H
          exact absurd H (by simp)
      · rw [if_neg c3] at H
        have c3b0 : decide (x10_1 < (l1.length : Int)) = false := decide_eq_false c3
        clear c3
        obtain rfl := Option.some.inj H
        go_wp2
        go_ret
        exact ⟨by first | rfl | (simp; done) | (simp [*]; done), by repeat (first | exact Drawn0.refl _ | apply Drawn0.step)⟩

end Go.Proofs.Yteoacngaicchiaa.PFnExactForgetAfter
