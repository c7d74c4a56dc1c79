-- WRITTEN BY wip/xprint.py out of the translation, with contracts of mine put in: Lean checks it.
import Derived.Test.YteoacngaicchiaaPFnExactEmptyContentsx0
import Derived.Test.YteoacngaicchiaaPFnExactEmptyContentsx1
import Derived.Test.YteoacngaicchiaaPFnExactEmptyContentsx2
namespace Go.Proofs.Yteoacngaicchiaa.PFnExactEmptyContents
open Go.RowKit Go.Proofs.YteoacngaicchiaaW.PrintWords Go.Proofs.YteoacngaicchiaaW.PrintLast Go.Proofs.YteoacngaicchiaaW.PrintMore
attribute [local go_sem] max2_int min2_int max_two min_two max_three min_three max_four min_four   -- for this text's walks alone
set_option linter.unusedVariables false
set_option linter.unusedSimpArgs false

/-! ### slices_Equal_int64_int64: function 98 -/
def slices_Equal_int64_int64.l0 : Nat → List Int → List Int → Int → Int → Option (Bool)
  | 0, _, _, _, _ => none
  | k + 1, x0, x1, x12, x13 => if x13 < x12 then (if 0 ≤ x13 then (if x13 < (x0.length : Int) then (if x13 < (x1.length : Int) then (if (rd x0 x13) = (rd x1 x13) then (slices_Equal_int64_int64.l0 k x0 x1 x12 (wrap64 (x13 + 1))) else (some false)) else (none)) else (none)) else (none)) else (some true)
def slices_Equal_int64_int64.f (k : Nat) (l0 : List Int) (l1 : List Int) : Option (Bool) := if (l0.length : Int) = (l1.length : Int) then (slices_Equal_int64_int64.l0 k l0 l1 (l0.length : Int) 0) else (some false)
theorem slices_Equal_int64_int64.mono_l : ∀ k, (∀ y0 y1 y2 y3, LeO (slices_Equal_int64_int64.l0 k y0 y1 y2 y3) (slices_Equal_int64_int64.l0 (k + 1) y0 y1 y2 y3))
  | 0 => fun _ _ _ _ r h => by simp [slices_Equal_int64_int64.l0] at h
  | k + 1 => by
    have ih0 := slices_Equal_int64_int64.mono_l k
    · intro y0 y1 y2 y3
      unfold slices_Equal_int64_int64.l0
      repeat' first
      | (with_reducible exact ih0 _ _ _ _)
      | (with_reducible exact LeO.refl _)
      | (with_reducible exact LeO.none _)
      | (with_reducible refine LeO.ite ?_ ?_)
      | (with_reducible refine LeO.bind ?_ (fun _ => ?_))
      | exact ih0 _ _ _ _
      | exact LeO.none _
      | refine LeO.ite ?_ ?_
      | refine LeO.bind ?_ (fun _ => ?_)
theorem slices_Equal_int64_int64.mono : ∀ a0 a1 k, LeO (slices_Equal_int64_int64.f k a0 a1) (slices_Equal_int64_int64.f (k + 1) a0 a1) := by
  intro a0 a1 k
  have ih0 := slices_Equal_int64_int64.mono_l k
  unfold slices_Equal_int64_int64.f
  repeat' first
      | (with_reducible exact ih0 _ _ _ _)
      | (with_reducible exact LeO.refl _)
      | (with_reducible exact LeO.none _)
      | (with_reducible refine LeO.ite ?_ ?_)
      | (with_reducible refine LeO.bind ?_ (fun _ => ?_))
      | exact ih0 _ _ _ _
      | exact LeO.none _
      | refine LeO.ite ?_ ?_
      | refine LeO.bind ?_ (fun _ => ?_)
set_option maxHeartbeats 8000000 in
set_option maxRecDepth 100000 in
theorem slices_Equal_int64_int64.calls (k : Nat) (A0 : Option Addr) (c0 : Nat) (l0 : List Int) (A1 : Option Addr) (c1 : Nat) (l1 : List Int) (r : Bool) (w : World) (hr0 : Kd.C (Kd.int .i64) w A0 l0.length l0) (hc0 : l0.length ≤ c0) (hr1 : Kd.C (Kd.int .i64) w A1 l1.length l1) (hc1 : l1.length ≤ c1) (h : slices_Equal_int64_int64.f k l0 l1 = some r) :
    Calls Try.prog 98 #[.slice A0 l0.length c0, .slice A1 l1.length c1] w fun e w' => e = .returned (.bool r) ∧ Drawn0 w w' := by
  have HR0 := Aside0.mk hr0
  have HC0 := Aside0.mk hc0
  clear hr0 hc0
  have HR1 := Aside0.mk hr1
  have HC1 := Aside0.mk hc1
  clear hr1 hc1
  have H : (if (l0.length : Int) = (l1.length : Int) then (slices_Equal_int64_int64.l0 k l0 l1 (l0.length : Int) 0) else (some false)) = some r := h
  clear h
  by_cases c3 : (l0.length : Int) = (l1.length : Int)
  · rw [if_pos c3] at H
    have c3b0 : ((l0.length : Int) == (l1.length : Int)) = true := beq_iff_eq.mpr c3
    have c3b1 : ((l0.length : Int) != (l1.length : Int)) = false := bne_eq_false_iff_eq.mpr c3
    have c3b2 : (l0.length == l1.length) = true := by first | simpa using c3 | (simp at c3 ⊢; omega)
    clear c3
    have H' := Aside0.mk H
    clear H
    go_enter Try.func98, Try.ntmps98
    go_wp2
    repeat (go_quiet (fail); try go_wp2)
    go_loopg [13] k (fun kq v13 w' => ∃ (x13_1 : Int), v13 = .int .i64 x13_1 ∧ Aside0 (slices_Equal_int64_int64.l0 kq l0 l1 (l0.length : Int) x13_1 = some r) ∧ Aside0 (kq ≤ k) ∧ Drawn0 w w')
    case atStart => exact ⟨(0), (by first | rfl | (simp; done) | (simp [*]; done)), H', ⟨Nat.le_refl _⟩, by repeat (first | exact Drawn0.refl _ | apply Drawn0.step)⟩
    case round =>
      clear H'
      try clear c1
      try clear p2
      try clear c3
      try clear c3b0
      try clear c3b1
      try clear c3b2
      obtain ⟨x13_1, rfl, HA, HK1, ⟨m1, rfl⟩⟩ := hrel
      cases gk with
      | zero => exact absurd HA.out (by simp [slices_Equal_int64_int64.l0])
      | succ k1 =>
        have H := HA.out
        clear HA
        simp only [slices_Equal_int64_int64.l0] at H
        by_cases c4 : x13_1 < (l0.length : Int)
        · rw [if_pos c4] at H
          have c4b0 : decide (x13_1 < (l0.length : Int)) = true := decide_eq_true c4
          clear c4
          by_cases c5 : 0 ≤ x13_1
          · rw [if_pos c5] at H
            have c5b0 : decide (0 ≤ x13_1) = true := decide_eq_true c5
            clear c5
            by_cases c6 : x13_1 < (l0.length : Int)
            · rw [if_pos c6] at H
              have c6b0 : decide (x13_1 < (l0.length : Int)) = true := decide_eq_true c6
              clear c6
              by_cases c7 : x13_1 < (l1.length : Int)
              · rw [if_pos c7] at H
                have c7b0 : decide (x13_1 < (l1.length : Int)) = true := decide_eq_true c7
                clear c7
                by_cases c8 : (rd l0 x13_1) = (rd l1 x13_1)
                · rw [if_pos c8] at H
                  have c8b0 : ((rd l0 x13_1) == (rd l1 x13_1)) = true := beq_iff_eq.mpr c8
                  have c8b1 : ((rd l0 x13_1) != (rd l1 x13_1)) = false := bne_eq_false_iff_eq.mpr c8
                  clear c8
                  have H' := Aside0.mk H
                  clear H
                  have p138 : 0 ≤ (x13_1 : Int) := of_decide_eq_true (by first | (with_reducible assumption) | assumption)
                  have q138 : x13_1 < (l0.length : Int) := of_decide_eq_true (by first | (with_reducible assumption) | assumption)
                  obtain ⟨ad138, e138, hx138_0⟩ := Kd.at_int HR0.out x13_1 p138 q138
                  cases e138
                  replace p138 := eq_true p138
                  replace q138 := eq_true q138
                  have p139 : 0 ≤ (x13_1 : Int) := of_decide_eq_true (by first | (with_reducible assumption) | assumption)
                  have q139 : x13_1 < (l1.length : Int) := of_decide_eq_true (by first | (with_reducible assumption) | assumption)
                  obtain ⟨ad139, e139, hx139_0⟩ := Kd.at_int HR1.out x13_1 p139 q139
                  cases e139
                  replace p139 := eq_true p139
                  replace q139 := eq_true q139
                  go_wp2
                  repeat (go_quiet (fail); try go_wp2)
                  go_roundg k1
                  case measure => have := HK1.out; omega
                  case rel => exact ⟨(wrap64 (x13_1 + 1)), (by first | rfl | (simp; done) | (simp [*]; done)), H', ⟨by have := HK1.out; omega⟩, by repeat (first | exact Drawn0.refl _ | apply Drawn0.step)⟩
                · rw [if_neg c8] at H
                  have c8b0 : ((rd l0 x13_1) == (rd l1 x13_1)) = false := beq_eq_false_iff_ne.mpr c8
                  have c8b1 : ((rd l0 x13_1) != (rd l1 x13_1)) = true := bne_iff_ne.mpr c8
                  obtain rfl := Option.some.inj H
                  have p138 : 0 ≤ (x13_1 : Int) := of_decide_eq_true (by first | (with_reducible assumption) | assumption)
                  have q138 : x13_1 < (l0.length : Int) := of_decide_eq_true (by first | (with_reducible assumption) | assumption)
                  obtain ⟨ad138, e138, hx138_0⟩ := Kd.at_int HR0.out x13_1 p138 q138
                  cases e138
                  replace p138 := eq_true p138
                  replace q138 := eq_true q138
                  have p139 : 0 ≤ (x13_1 : Int) := of_decide_eq_true (by first | (with_reducible assumption) | assumption)
                  have q139 : x13_1 < (l1.length : Int) := of_decide_eq_true (by first | (with_reducible assumption) | assumption)
                  obtain ⟨ad139, e139, hx139_0⟩ := Kd.at_int HR1.out x13_1 p139 q139
                  cases e139
                  replace p139 := eq_true p139
                  replace q139 := eq_true q139
                  go_wp2
                  repeat (go_quiet (fail); try go_wp2)
                  go_ret
                  exact ⟨by first | rfl | (simp; done) | (simp [*]; done), by repeat (first | exact Drawn0.refl _ | apply Drawn0.step)⟩
              · rw [if_neg c7] at H
                exact absurd H (by simp)
            · rw [if_neg c6] at H
              exact absurd H (by simp)
          · rw [if_neg c5] at H
            exact absurd H (by simp)
        · rw [if_neg c4] at H
          have c4b0 : decide (x13_1 < (l0.length : Int)) = false := decide_eq_false c4
          clear c4
          obtain rfl := Option.some.inj H
          go_wp2
          repeat (go_quiet (fail); try go_wp2)
          go_ret
          exact ⟨by first | rfl | (simp; done) | (simp [*]; done), by repeat (first | exact Drawn0.refl _ | apply Drawn0.step)⟩
  · rw [if_neg c3] at H
    have c3b0 : ((l0.length : Int) == (l1.length : Int)) = false := beq_eq_false_iff_ne.mpr c3
    have c3b1 : ((l0.length : Int) != (l1.length : Int)) = true := bne_iff_ne.mpr c3
    have c3b2 : (l0.length == l1.length) = false := by first | simpa using c3 | (simp at c3 ⊢; omega)
    obtain rfl := Option.some.inj H
    go_enter Try.func98, Try.ntmps98
    go_wp2
    repeat (go_quiet (fail); try go_wp2)
    go_ret
    exact ⟨by first | rfl | (simp; done) | (simp [*]; done), by repeat (first | exact Drawn0.refl _ | apply Drawn0.step)⟩

/-! ### impl_ascending: function 99 -/
def impl_ascending.l0 : Nat → List Int → Int → Int → Option (List Int)
  | 0, _, _, _ => none
  | k + 1, x3, x6, x7 => if x7 < x6 then (if x3.length < 17592186044416 then (impl_ascending.l0 k (x3 ++ [x7]) x6 (wrap64 (x7 + 1))) else (none)) else (some x3)
def impl_ascending.f (k : Nat) (a0 : Int) : Option (List Int) := impl_ascending.l0 k (([] : List Int)) a0 0
theorem impl_ascending.mono_l : ∀ k, (∀ y0 y1 y2, LeO (impl_ascending.l0 k y0 y1 y2) (impl_ascending.l0 (k + 1) y0 y1 y2))
  | 0 => fun _ _ _ r h => by simp [impl_ascending.l0] at h
  | k + 1 => by
    have ih0 := impl_ascending.mono_l k
    · intro y0 y1 y2
      unfold impl_ascending.l0
      repeat' first
      | (with_reducible exact ih0 _ _ _)
      | (with_reducible exact LeO.refl _)
      | (with_reducible exact LeO.none _)
      | (with_reducible refine LeO.ite ?_ ?_)
      | (with_reducible refine LeO.bind ?_ (fun _ => ?_))
      | exact ih0 _ _ _
      | exact LeO.none _
      | refine LeO.ite ?_ ?_
      | refine LeO.bind ?_ (fun _ => ?_)
theorem impl_ascending.mono : ∀ a0 k, LeO (impl_ascending.f k a0) (impl_ascending.f (k + 1) a0) := by
  intro a0 k
  have ih0 := impl_ascending.mono_l k
  unfold impl_ascending.f
  repeat' first
      | (with_reducible exact ih0 _ _ _)
      | (with_reducible exact LeO.refl _)
      | (with_reducible exact LeO.none _)
      | (with_reducible refine LeO.ite ?_ ?_)
      | (with_reducible refine LeO.bind ?_ (fun _ => ?_))
      | exact ih0 _ _ _
      | exact LeO.none _
      | refine LeO.ite ?_ ?_
      | refine LeO.bind ?_ (fun _ => ?_)
set_option maxHeartbeats 8000000 in
set_option maxRecDepth 100000 in
theorem impl_ascending.calls (k : Nat) (a0 : Int) (r : List Int) (w : World) (h : impl_ascending.f k a0 = some r) :
    Calls Try.prog 99 #[.int .i64 a0] w fun e w' => ∃ v0_ : Value, e = .returned (v0_) ∧ Kd.R (Kd.int .i64) 2 w' w.heap.size (fun _ => True) v0_ r ∧ Below w.heap.size w w' := by
  have HB := Aside0.mk (Below.refl w.heap.size w)
  have H : (impl_ascending.l0 k (([] : List Int)) a0 0) = some r := h
  clear h
  obtain ⟨y140, hy140⟩ : ∃ y_ : List Int, y_ = (([] : List Int)) := ⟨_, rfl⟩
  replace H : (impl_ascending.l0 k y140 a0 0) = some r := by first | (rw [hy140]; with_reducible exact H) | (have H2_ := (Option.bind_some _ _).symm.trans H; rw [hy140]; with_reducible exact H2_) | (have H2_ := (Option.bind_some _ _).symm.trans H; with_reducible exact H2_) | with_reducible exact H | (rw [hy140]; exact H) | exact H
  have Ny140 := Aside0.mk hy140
  clear hy140
  have H' := Aside0.mk H
  clear H
  go_enter Try.func99, Try.ntmps99
  go_wp2_with (first | ((with_reducible refine gate_dst (N := 5) rfl ?_); refine Kd.R_lit (Kd.int .i64) _ 2 ?hg (N := 5) ?hd (xs := ([] : List Int)) (inner := []) (ok := fun _ => True) (okp := fun _ => True) ?hr ?hp (fun _ hk => hk) trivial (Below.refl _ _) (Nat.le_refl _) (by simp) ?_; (case hd => rfl); (case hg => rfl); (case hr => first | (go_simp; done) | (go_simp; rfl)); (case hp => exact (Reps.none _ _)); intro v141 w2 ho3 hb hg_ hnew_; clear hg_ hnew_; (first | rw [← Ny140.out] at ho3 | (simp only [Int.reduceToNat] at ho3; rw [← Ny140.out] at ho3)); have n0_ := Aside0.mk (Kd.R_lower ho3 (below_size (by repeat (first | (with_reducible first | exact HB.out | apply below_alloc | apply pw_below_drewN | apply below_drew1) | exact HB.out)))); have n1_ := Aside0.mk (below_step (by repeat (first | (with_reducible first | exact HB.out | apply below_alloc | apply pw_below_drewN | apply below_drew1) | exact HB.out)) hb); clear HB; have HO142 := n0_; have HB := n1_; clear n0_ n1_; clear hb ho3))
  go_loopg [3, 7] k (fun kq v3 v7 w' => ∃ (x3_1 : List Int) (x7_1 : Int), v7 = .int .i64 x7_1 ∧ Aside0 (impl_ascending.l0 kq x3_1 a0 x7_1 = some r) ∧ Aside0 (kq ≤ k) ∧ Aside0 (Kd.R (Kd.int .i64) 2 w' w.heap.size (fun _ => True) v3 x3_1) ∧ Aside0 (Below w.heap.size w w'))
  case atStart => exact ⟨(y140), (0), (by first | rfl | (simp; done) | (simp [*]; done)), H', ⟨Nat.le_refl _⟩, ⟨by (with_reducible repeat (first | apply Kd.R_alloc | apply Kd.R_drewN | apply Kd.R_drew)); exact HO142.out⟩, ⟨by repeat (first | (with_reducible first | exact HB.out | apply below_alloc | apply pw_below_drewN | apply below_drew1) | exact HB.out)⟩⟩
  case round =>
    clear H'
    try clear p2
    obtain ⟨x3_1, x7_1, rfl, HA, HK1, HO_3, HB⟩ := hrel
    cases gk with
    | zero => exact absurd HA.out (by simp [impl_ascending.l0])
    | succ k1 =>
      have H := HA.out
      clear HA
      simp only [impl_ascending.l0] at H
      by_cases c4 : x7_1 < a0
      · rw [if_pos c4] at H
        have c4b0 : decide (x7_1 < a0) = true := decide_eq_true c4
        clear c4
        by_cases c5 : x3_1.length < 17592186044416
        · rw [if_pos c5] at H
          have LMc5 := Aside0.mk c5
          clear c5
          obtain ⟨y143, hy143⟩ : ∃ y_ : List Int, y_ = (x3_1 ++ [x7_1]) := ⟨_, rfl⟩
          replace H : (impl_ascending.l0 k1 y143 a0 (wrap64 (x7_1 + 1))) = some r := by first | (rw [hy143]; with_reducible exact H) | (have H2_ := (Option.bind_some _ _).symm.trans H; rw [hy143]; with_reducible exact H2_) | (have H2_ := (Option.bind_some _ _).symm.trans H; with_reducible exact H2_) | with_reducible exact H | (rw [hy143]; exact H) | exact H
          have Ny143 := Aside0.mk hy143
          clear hy143
          have H' := Aside0.mk H
          clear H
          go_wp2_with (first | ((with_reducible refine gate_builtin (b := .append) (xs := #[.tmp 10, .tmp 12]) rfl ?_); at_builtin; refine Kd.R_append (Kd.int .i64) (w0 := w) w.heap.size rfl (.tmp 10) (.tmp 12) 24 2 (.int .i64 0) 8 rfl Try.underlying24 info2 rfl (by decide) (by omega) u3 x3_1 x7_1 [.int .i64 x7_1] (fun _ => True) (fun _ => False) rfl rfl ?aP (fun _ hk => hk.elim) ?aF ?aO ?aB ?aS ?aL ?_; (case aP => exact rfl); (case aB => exact (by repeat (first | (with_reducible first | exact HB.out | apply below_alloc | apply pw_below_drewN | apply below_drew1) | exact HB.out))); (case aF => exact (fun _ _ => trivial)); (case aO => exact (by (with_reducible repeat (first | apply Kd.R_alloc | apply Kd.R_drewN | apply Kd.R_drew)); exact HO_3.out)); (case aS => exact (below_size (by repeat (first | (with_reducible first | exact HB.out | apply below_alloc | apply pw_below_drewN | apply below_drew1) | exact HB.out)))); (case aL => have := LMc5.out; omega); intro v144 w6 ho hb hg hat; rw [← Ny143.out] at ho; have n0_ := Aside0.mk (hb); have n1_ := Aside0.mk (ho); clear HB; clear HO_3; have HB := n0_; have HO145 := n1_; clear n0_ n1_; clear ho hb hg hat))
          go_roundg k1
          case measure => have := HK1.out; omega
          case rel => exact ⟨(y143), (wrap64 (x7_1 + 1)), (by first | rfl | (simp; done) | (simp [*]; done)), H', ⟨by have := HK1.out; omega⟩, ⟨by (with_reducible repeat (first | apply Kd.R_alloc | apply Kd.R_drewN | apply Kd.R_drew)); exact HO145.out⟩, ⟨by repeat (first | (with_reducible first | exact HB.out | apply below_alloc | apply pw_below_drewN | apply below_drew1) | exact HB.out)⟩⟩
        · rw [if_neg c5] at H
          exact absurd H (by simp)
      · rw [if_neg c4] at H
        have c4b0 : decide (x7_1 < a0) = false := decide_eq_false c4
        clear c4
        obtain rfl := Option.some.inj H
        go_wp2
        go_ret
        exact ⟨_, by first | rfl | (simp [errW_none, errW_some] <;> rfl) | (simp [*, errW_none, errW_some] <;> rfl), by (with_reducible repeat (first | apply Kd.R_alloc | apply Kd.R_drewN | apply Kd.R_drew)); exact HO_3.out, by repeat (first | (with_reducible first | exact HB.out | apply below_alloc | apply pw_below_drewN | apply below_drew1) | exact HB.out)⟩

/-! ### impl_isOrderOf: function 69: by hand -/
/-- The numbers below n in their order. -/
def rngL (n : Nat) : List Int := (List.range n).map (fun i : Nat => (i : Int))
theorem rngL_succ (n : Nat) : rngL (n + 1) = rngL n ++ [(n : Int)] := by unfold rngL; rw [List.range_succ, List.map_append]; rfl
theorem rngL_len (n : Nat) : (rngL n).length = n := by unfold rngL; rw [List.length_map, List.length_range]
theorem isOrderOf_wid {x : Int} (h1 : -9223372036854775808 ≤ x) (h2 : x < 9223372036854775808) : wrap64 x = x := by unfold wrap64; omega
theorem ascending_l (n : Nat) (hn : n ≤ 1048576) (d : Nat) : ∀ i : Nat, n - i = d → i ≤ n → Ev (fun k => impl_ascending.l0 k (rngL i) (n : Int) (i : Int)) (rngL n) := by
  induction d with
  | zero =>
    intro i hd hi
    obtain rfl : i = n := by omega
    exact Ev.step (f := fun _ => some (rngL i)) (fun k => by rw [impl_ascending.l0, if_neg (by omega)]) (Ev.now _)
  | succ d ih =>
    intro i hd hi
    have hl := rngL_len i
    have hx := ih (i + 1) (by omega) (by omega)
    rw [rngL_succ] at hx
    have e := Aside0.mk (show wrap64 ((i : Int) + 1) = ((i + 1 : Nat) : Int) by rw [isOrderOf_wid (by omega) (by omega)]; omega)
    refine Ev.step (fun k => ?_) hx
    rw [impl_ascending.l0, if_pos (by omega), if_pos (by omega), e.out]
theorem ascending_is (n : Nat) (hn : n ≤ 1048576) : ∃ k, impl_ascending.f k (n : Int) = some (rngL n) := Ev.rounds (by
  have := ascending_l n hn n 0 (by omega) (by omega)
  exact this)
theorem equal_l (a b : List Int) (hab : a.length = b.length) (ha : a.length ≤ 1048576) (d : Nat) : ∀ i : Nat, a.length - i = d → i ≤ a.length → Ev (fun k => slices_Equal_int64_int64.l0 k a b (a.length : Int) (i : Int)) (decide (a.drop i = b.drop i)) := by
  induction d with
  | zero =>
    intro i hd hi
    rw [List.drop_eq_nil_of_le (by omega), List.drop_eq_nil_of_le (by omega), decide_eq_true rfl]
    exact Ev.step (f := fun _ => some true) (fun k => by rw [slices_Equal_int64_int64.l0, if_neg (by omega)]) (Ev.now _)
  | succ d ih =>
    intro i hd hi
    have h1 : i < a.length := by omega
    have h2 : i < b.length := by omega
    have ea : a.drop i = rd a (i : Int) :: a.drop (i + 1) := by unfold rd; rw [Int.toNat_natCast, List.drop_eq_getElem_cons h1, List.getD_eq_getElem?_getD, List.getElem?_eq_getElem h1]; rfl
    have eb : b.drop i = rd b (i : Int) :: b.drop (i + 1) := by unfold rd; rw [Int.toNat_natCast, List.drop_eq_getElem_cons h2, List.getD_eq_getElem?_getD, List.getElem?_eq_getElem h2]; rfl
    have hx := ih (i + 1) (by omega) (by omega)
    have e := Aside0.mk (show wrap64 ((i : Int) + 1) = ((i + 1 : Nat) : Int) by rw [isOrderOf_wid (by omega) (by omega)]; omega)
    have g1 : (i : Int) < (a.length : Int) := by omega
    have g2 : (0 : Int) ≤ (i : Int) := by omega
    have g3 : (i : Int) < (b.length : Int) := by omega
    rw [ea, eb]
    by_cases q : rd a (i : Int) = rd b (i : Int)
    · have ed : decide (rd a (i : Int) :: a.drop (i + 1) = rd b (i : Int) :: b.drop (i + 1)) = decide (a.drop (i + 1) = b.drop (i + 1)) := by rw [q]; simp
      rw [ed]
      refine Ev.step (fun k => ?_) hx
      rw [slices_Equal_int64_int64.l0, if_pos g1, if_pos g2, if_pos g1, if_pos g3, if_pos q, e.out]
    · have ed : decide (rd a (i : Int) :: a.drop (i + 1) = rd b (i : Int) :: b.drop (i + 1)) = false := decide_eq_false (fun h => q (List.cons.inj h).1)
      rw [ed]
      exact Ev.step (f := fun _ => some false) (fun k => by rw [slices_Equal_int64_int64.l0, if_pos g1, if_pos g2, if_pos g1, if_pos g3, if_neg q]) (Ev.now _)
theorem equal_is (a b : List Int) (ha : a.length ≤ 1048576) : ∃ k, slices_Equal_int64_int64.f k a b = some (decide (a = b)) := Ev.rounds (by
  unfold slices_Equal_int64_int64.f
  by_cases h : a.length = b.length
  · have := equal_l a b h ha a.length 0 (by omega) (by omega)
    rw [List.drop_zero, List.drop_zero] at this
    simp only [if_pos (show (a.length : Int) = (b.length : Int) by omega)]
    exact this
  · simp only [if_neg (show ¬ (a.length : Int) = (b.length : Int) by omega)]
    rw [decide_eq_false (fun e => h (by rw [e]))]
    exact Ev.now _)
/-- The list has each number below n once. -/
def ordB (l : List Int) (n : Int) : Bool := decide ((l.length : Int) = n) && decide ((l.mergeSort fun x y => decide (x ≤ y)) = rngL n.toNat)
section
attribute [local go_sem] Oper.semAt_some
set_option maxRecDepth 100000 in
set_option maxHeartbeats 4000000 in
theorem impl_isOrderOf.at_ (A0 : Option Addr) (c0 : Nat) (l0 : List Int) (a1 : Int) (w : World) (hr0 : Kd.C (Kd.int .i64) w A0 l0.length l0) (hc0 : l0.length ≤ c0) (hlen : l0.length ≤ 1048576) :
    Calls Try.prog 69 #[.slice A0 l0.length c0, .int .i64 a1] w fun e w' => e = .returned (.bool (ordB l0 a1)) ∧ Below w.heap.size w w' := by
  have HL := Aside0.mk (impl_length_int64_55.calls A0 c0 l0 (l0.length : Int) w hr0 hc0 rfl)
  by_cases hq : (l0.length : Int) = a1
  case neg =>
    have he : ordB l0 a1 = false := by unfold ordB; rw [decide_eq_false hq, Bool.false_and]
    rw [he]
    have hd : ((l0.length : Int) == a1) = false := beq_eq_false_iff_ne.2 hq
    have HL2 := HL.out
    clear hq he HL hr0
    go_enter Try.func69, Try.ntmps69
    go_wp2_with fail
    refine HL2.mono ?_
    clear HL2
    rintro e w' ⟨rfl, ⟨nd, rfl⟩⟩
    go_wp2_with fail
    go_ret
    exact ⟨rfl, pw_below_drewN (Below.refl _ _) _⟩
  case pos =>
    have he : ordB l0 a1 = decide ((l0.mergeSort fun x y => decide (x ≤ y)) = rngL l0.length) := by unfold ordB; rw [decide_eq_true hq, Bool.true_and, ← hq, Int.toNat_natCast]
    rw [he]
    have hd : ((l0.length : Int) == a1) = true := beq_iff_eq.2 hq
    obtain ⟨kA, hA⟩ := ascending_is l0.length hlen
    obtain ⟨kE, hE⟩ := equal_is (l0.mergeSort fun x y => decide (x ≤ y)) (rngL l0.length) (by rw [List.length_mergeSort]; exact hlen)
    rw [hq] at hA
    have HA := Aside0.mk hA
    have HE := Aside0.mk hE
    have HR := Aside0.mk hr0
    have hlen' := Aside0.mk hlen
    refine (callsIn_wide (n := 9)).1 ?_
    have cL := HL.out
    have cV : ∀ W, CallsIn Fence.wide 8 Try.prog 94 #[.slice A0 l0.length c0] W fun e w' => e = .returned (.func (.func 110) #[] #[.pointer (some ⟨W.heap.size, 0, none⟩)]) ∧ w' = W.alloc (.cells #[.slice A0 l0.length c0] 24) := fun W => SetOf.values_in Fence.wide 8 trivial rfl _ _ _ W
    have cS : ∀ q, CallsIn Fence.wide 8 Try.prog 93 #[.func (.func 110) #[] #[.pointer (some ⟨w.heap.size, 0, none⟩)]] ((w.drewN q).alloc (.cells #[.slice A0 l0.length c0] 24)) _ := fun q =>
      SetOf.sorted_in 8 (by omega) 110 #[.pointer (some ⟨w.heap.size, 0, none⟩)] (enters_of Try.func110 (by kernel_rfl) rfl) (fun ys => ys = l0) (fun pre => pre <+: l0) l0.length hlen (fun ss h => by rw [h]; exact hlen) w ((w.drewN q).alloc (.cells #[.slice A0 l0.length c0] 24)) ((pw_below_drewN (Below.refl _ w) q).alloc (Nat.le_refl _) _)
        (SetOf.values_stops Fence.wide 5 trivial rfl (by omega) w.heap.size w A0 c0 l0 hr0 hlen _ ((pw_below_drewN (Below.refl _ w) q).alloc (Nat.le_refl _) _) (by simp) (Boxed.new (w.drewN q) 24 (.slice A0 l0.length c0)).cell)
    have cA : ∀ W, CallsIn Fence.wide 8 Try.prog 99 #[.int .i64 a1] W _ := fun W => callsIn_wide.2 (impl_ascending.calls kA a1 (rngL l0.length) W HA.out)
    clear hA hE hr0 hlen hq he HL
    have hf55 : Fence.wide.fn 55 := trivial
    have hf93 : Fence.wide.fn 93 := trivial
    have hf94 : Fence.wide.fn 94 := trivial
    have hf98 : Fence.wide.fn 98 := trivial
    have hf99 : Fence.wide.fn 99 := trivial
    refine callsIn_of_wp Try.func69 rfl trivial ?_ rfl
    simp only [Try.ntmps69, List.size_toArray, List.length_cons, List.length_nil, Nat.reduceAdd, Nat.reduceSub, Array.replicate_succ, Array.replicate_zero, List.push_toArray, List.append_toArray, List.nil_append, List.cons_append]
    gi_wp2_with (first
      | (gi_at_call 55; refine (callsIn_wide.2 cL).mono ?_; rintro e w' ⟨rfl, ⟨nd, rfl⟩⟩)
      | (gi_at_call 94; refine (cV _).mono ?_; rintro e w' ⟨rfl, rfl⟩)
      | (gi_at_call 93; refine (cS _).mono ?_; rintro e W ⟨v, ss, ts, rfl, hss, hts, hrow, hb⟩))
    subst hss
    subst hts
    have hb2 : Below w.heap.size w W := (((pw_below_drewN (Below.refl _ w) nd).alloc (Nat.le_refl _) _)).trans (hb.mono (by simp))
    have hR : Kd.R (Kd.int .i64) 2 W _ (fun _ => True) v (ss.mergeSort fun x y => decide (x ≤ y)) := Kd.R_of_own hrow (fun _ _ => trivial)
    obtain ⟨A2, c2, ev, hc2, hC2⟩ := Kd.R_reads hR
    subst ev
    refine (cA W).mono ?_
    rintro e W2 ⟨v3, rfl, hR3, hb3⟩
    have hC3 := Kd.C_below hC2 hb3
    obtain ⟨A4, c4, ev4, hc4, hC4⟩ := Kd.R_reads hR3
    subst ev4
    have hb4 : Below w.heap.size w W2 := hb2.trans (hb3.mono hb2.size)
    have cE := fun W0 (hW : W0 = W2) => slices_Equal_int64_int64.calls kE A2 c2 (ss.mergeSort fun x y => decide (x ≤ y)) A4 c4 (rngL ss.length) _ W0 (by rw [hW]; exact hC3) hc2 (by rw [hW]; exact hC4) hc4 HE.out
    have HB := Aside0.mk hb4
    have HCE := Aside0.mk (cE W2 rfl)
    clear hrow hR hC2 hC3 hR3 hC4 hb hb2 hb3 hb4 cE cS cA cV cL HE HA hc2 hc4
    obtain ⟨rr, hrr⟩ : ∃ rr, rr = decide ((ss.mergeSort fun x y => decide (x ≤ y)) = rngL ss.length) := ⟨_, rfl⟩
    rw [← hrr] at HCE
    have HRR := Aside0.mk hrr
    clear hrr
    generalize (ss.mergeSort fun x y => decide (x ≤ y)).length = m1 at HCE ⊢
    generalize (rngL ss.length).length = m2 at HCE ⊢
    gi_wp2_with (first
      | (gi_at_call 98; refine (callsIn_wide.2 HCE.out).mono ?_; rintro e w' ⟨rfl, ⟨nd2, rfl⟩⟩))
    go_ret
    exact ⟨by rw [← HRR.out]; rfl, pw_below_drewN HB.out _⟩
end
def impl_isOrderOf.f (l0 : List Int) (a1 : Int) : Option Bool := if l0.length ≤ 1048576 then some (ordB l0 a1) else none
theorem impl_isOrderOf.calls (A0 : Option Addr) (c0 : Nat) (l0 : List Int) (a1 : Int) (r : Bool) (w : World) (hr0 : Kd.C (Kd.int .i64) w A0 l0.length l0) (hc0 : l0.length ≤ c0) (h : impl_isOrderOf.f l0 a1 = some r) :
    Calls Try.prog 69 #[.slice A0 l0.length c0, .int .i64 a1] w fun e w' => e = .returned (.bool r) ∧ Below w.heap.size w w' := by
  unfold impl_isOrderOf.f at h
  by_cases hl : l0.length ≤ 1048576
  · rw [if_pos hl] at h
    obtain rfl := Option.some.inj h
    exact impl_isOrderOf.at_ A0 c0 l0 a1 w hr0 hc0 hl
  · rw [if_neg hl] at h
    cases h


/-! ### slices_IndexFunc_int64_int64: function 100: by hand -/
/-- The place of the first row at which p holds, counted from i; -1 if there is none. -/
def fstR (p : List Int → Bool) : List (List Int) → Nat → Int
  | [], _ => -1
  | y :: r, i => if p y = true then (i : Int) else fstR p r (i + 1)
theorem fstR_ge (p : List Int → Bool) (l : List (List Int)) : ∀ i, decide (0 ≤ fstR p l i) = l.any p := by
  induction l with
  | nil => intro i; rfl
  | cons y r ih =>
    intro i
    rw [fstR, List.any_cons]
    by_cases h : p y = true
    · rw [if_pos h, h, Bool.true_or, decide_eq_true (by omega)]
    · rw [if_neg h, Bool.eq_false_iff.mpr h, Bool.false_or, ih]
/-- A function value that decides of a row; it may make memory. -/
def DecidesR (g : Nat) (lb : Array Value) (p : List Int → Bool) (w : World) : Prop :=
  ∀ (x : List Int) (A : Option Addr) (c : Nat) (W : World), Below w.heap.size w W → Kd.C (Kd.int .i64) W A x.length x → x.length ≤ c → x.length ≤ 1048576 → Calls Try.prog g (#[.slice A x.length c] ++ lb) W fun e w' => e = .returned (.bool (p x)) ∧ Below W.heap.size W w'
set_option maxHeartbeats 2000000 in
theorem IndexFuncRows.at_ (p : List Int → Bool) (g : Nat) (lb : Array Value) (eg : ∀ args w, (callFunc g args).run Try.prog w = .ok (.enter g args) w) (A : Option Addr) (c : Nat) (xs : List (List Int)) (w : World)
    (hp : DecidesR g lb p w) (hr : Kd.C (Kd.slice 2 (Kd.int .i64)) w A xs.length xs) (hx : ∀ x ∈ xs, x.length ≤ 1048576) :
    Calls Try.prog 100 #[.slice A xs.length c, .func (.func g) #[] lb] w fun e w' => e = .returned (.int .i64 (fstR p xs 0)) ∧ Below w.heap.size w w' := by
  have hm := Kd.C_max hr
  have HP := Aside0.mk hp
  have HR := Aside0.mk hr
  have HX := Aside0.mk hx
  clear hp hr hx
  go_enter Try.func100, Try.ntmps100
  go_wp2
  go_loopg [5, 8] xs.length (fun gg _ s8 wr => ∃ kk : Nat, kk ≤ xs.length ∧ xs.length - kk ≤ gg ∧ s8 = .int .i64 kk ∧ Aside0 (Below w.heap.size w wr) ∧ Aside0 (fstR p xs 0 = fstR p (xs.drop kk) kk))
  case atStart => exact ⟨0, Nat.zero_le _, by omega, rfl, ⟨Below.refl _ _⟩, ⟨rfl⟩⟩
  case round =>
    obtain ⟨kk, hkk, hg, rfl, HB, A1⟩ := hrel
    by_cases hlt : kk < xs.length
    · have hltz : (kk : Int) < (xs.length : Int) := by omega
      have hCb := Kd.C_below HR.out HB.out
      obtain ⟨ad, cs, e1, _, hK, hc0⟩ := Kd.C_get hCb ([] : List Int) (kk : Int) (by omega) hltz
      subst e1
      have hx1 := HX.out (xs.getD ((kk : Int)).toNat []) (by rw [Int.toNat_natCast, List.getD_eq_getElem?_getD, List.getElem?_eq_getElem hlt]; exact List.getElem_mem _)
      have D : Aside0 (xs.drop kk = xs.getD ((kk : Int)).toNat [] :: xs.drop (kk + 1)) := ⟨by rw [Int.toNat_natCast, List.drop_eq_getElem_cons hlt, List.getD_eq_getElem?_getD, List.getElem?_eq_getElem hlt]; rfl⟩
      generalize xs.getD ((kk : Int)).toNat [] = y at hK hx1 D
      obtain ⟨A2, c2, rfl, hl2, hC2⟩ := hK
      have hcell : wr.cell? (ad.add kk) = some (.slice A2 y.length c2) := by
        have := hc0 0 _ rfl
        rwa [Int.toNat_natCast, show kk * (Kd.slice 2 (Kd.int .i64)).sz + 0 = kk by show kk * 1 + 0 = kk; omega] at this
      have HC := Aside0.mk (HP.out y A2 c2 wr HB.out hC2 hl2 hx1)
      clear hc0 hC2 hl2 hx1 hCb
      cases hq : p y with
      | true =>
        have A2' : Aside0 (fstR p xs 0 = (kk : Int)) := ⟨by rw [A1.out, D.out, fstR, if_pos hq]⟩
        have HC2 := HC.out
        rw [hq] at HC2
        clear hq HC
        go_wp2_with fail
        refine HC2.mono ?_
        clear HC2
        rintro e w' ⟨rfl, hb⟩
        have HB2 := Aside0.mk (below_step HB.out hb)
        clear hb
        go_wp2_with fail
        go_ret
        exact ⟨congrArg (fun z => Ending.returned (.int .i64 z)) A2'.out.symm, HB2.out⟩
      | false =>
        have A2' : Aside0 (fstR p xs 0 = fstR p (xs.drop (kk + 1)) (kk + 1)) := ⟨by rw [A1.out, D.out, fstR, if_neg (by rw [hq]; decide)]⟩
        have HC2 := HC.out
        rw [hq] at HC2
        clear hq HC
        go_wp2_with fail
        refine HC2.mono ?_
        clear HC2
        rintro e w' ⟨rfl, hb⟩
        have HB2 := Aside0.mk (below_step HB.out hb)
        clear hb
        go_wp2_with fail
        go_roundg (xs.length - (kk + 1))
        case measure => omega
        case rel => exact ⟨kk + 1, by omega, by omega, by go_num, HB2, A2'⟩
    · have hltz : ¬ (kk : Int) < (xs.length : Int) := by omega
      have A2' : Aside0 (fstR p xs 0 = -1) := ⟨by rw [A1.out, List.drop_eq_nil_of_le (by omega), fstR]⟩
      go_wp2
      go_ret
      exact ⟨congrArg (fun z => Ending.returned (.int .i64 z)) A2'.out.symm, HB.out⟩


/-! ### slices_ContainsFunc_int64_int64: function 70: by hand -/
theorem ContainsFuncRows.has (p : List Int → Bool) (g : Nat) (lb : Array Value) (eg : ∀ args w, (callFunc g args).run Try.prog w = .ok (.enter g args) w) (A : Option Addr) (c : Nat) (xs : List (List Int)) (w : World)
    (hp : DecidesR g lb p w) (hr : Kd.C (Kd.slice 2 (Kd.int .i64)) w A xs.length xs) (hx : ∀ x ∈ xs, x.length ≤ 1048576) :
    Calls Try.prog 70 #[.slice A xs.length c, .func (.func g) #[] lb] w fun e w' => e = .returned (.bool (xs.any p)) ∧ Below w.heap.size w w' := by
  rw [← fstR_ge p xs 0]
  have hcall := IndexFuncRows.at_ p g lb eg A c xs w hp hr hx
  clear hp hr
  generalize fstR p xs 0 = r at hcall ⊢
  go_enter Try.func70, Try.ntmps70
  go_wp2_with fail
  refine hcall.mono ?_
  clear hcall
  rintro e w' ⟨rfl, hb⟩
  have HB := Aside0.mk hb
  clear hb
  go_wp2_with fail
  go_ret
  exact ⟨rfl, HB.out⟩


/-! ### impl_ValidPolicy: function 35: by hand -/
theorem impl_ValidPolicy.closure (ways : Int) (b : Nat) (w : World) (hb : w.cell? ⟨b, 0, none⟩ = some (.int .i64 ways)) (hlt : b < w.heap.size) : DecidesR 71 #[.pointer (some ⟨b, 0, none⟩)] (fun x => !ordB x ways) w := by
  intro x A c W hB hC hc hl
  have hcell := (hB.cell (p := ⟨b, 0, none⟩) hlt).trans hb
  have HC := Aside0.mk (impl_isOrderOf.at_ A c x ways W hC hc hl)
  show Calls Try.prog 71 #[.slice A x.length c, .pointer (some ⟨b, 0, none⟩)] W fun e w' => e = .returned (.bool (!ordB x ways)) ∧ Below W.heap.size W w'
  generalize ordB x ways = r at HC ⊢
  clear hB hC hb
  have HC2 := HC.out
  clear HC
  go_enter Try.func71, Try.ntmps71
  go_wp2_with fail
  refine HC2.mono ?_
  clear HC2
  rintro e w' ⟨rfl, hb⟩
  have HB := Aside0.mk hb
  clear hb
  go_wp2_with fail
  go_ret
  exact ⟨rfl, HB.out⟩
/-- The policy's rows are orders. -/
def validP (l0 : List (List Int)) (l1 : List Int) : Bool := decide (1 ≤ (l1.length : Int) ∧ (l1.length : Int) ≤ 6) && (decide (l0.length = l1.length) && (ordB l1 (l1.length : Int) && l0.all fun x => ordB x (l1.length : Int)))
def impl_ValidPolicy.f (l0_0 : List (List Int)) (l0_1 : List Int) : Option Bool := if l0_1.length ≤ 1048576 ∧ (∀ x ∈ l0_0, x.length ≤ 1048576) then some (validP l0_0 l0_1) else none
theorem isWays_tells (x : Int) : impl_isWays.f x = some (decide (1 ≤ x ∧ x ≤ 6)) := by
  unfold impl_isWays.f impl_inRange.f
  by_cases h : 1 ≤ x <;> by_cases g : x ≤ 6 <;> simp [h, g]
set_option maxHeartbeats 8000000 in
set_option maxRecDepth 100000 in
theorem impl_ValidPolicy.calls (A0_0 : Option Addr) (c0_0 : Nat) (l0_0 : List (List Int)) (A0_1 : Option Addr) (c0_1 : Nat) (l0_1 : List Int) (r : Bool) (w : World) (hr0_0 : Kd.C (Kd.slice 2 (Kd.int .i64)) w A0_0 l0_0.length l0_0) (hc0_0 : l0_0.length ≤ c0_0) (hr0_1 : Kd.C (Kd.int .i64) w A0_1 l0_1.length l0_1) (hc0_1 : l0_1.length ≤ c0_1) (h : impl_ValidPolicy.f l0_0 l0_1 = some r) :
    Calls Try.prog 35 #[.agg #[.slice A0_0 l0_0.length c0_0, .slice A0_1 l0_1.length c0_1]] w fun e w' => e = .returned (.bool r) ∧ Below w.heap.size w w' := by
  unfold impl_ValidPolicy.f at h
  by_cases hl : l0_1.length ≤ 1048576 ∧ (∀ x ∈ l0_0, x.length ≤ 1048576)
  case neg => rw [if_neg hl] at h; cases h
  rw [if_pos hl] at h
  obtain rfl := Option.some.inj h
  clear h
  have HL := Aside0.mk hl
  have HR0 := Aside0.mk hr0_0
  have HR1 := Aside0.mk hr0_1
  clear hl hr0_0 hr0_1
  have hu := Try.underlying42
  have mixed : Try.prog.follows .mixedOrders = true := by kernel_rfl
  have e71 : ∀ args w, (callFunc 71 args).run Try.prog w = .ok (.enter 71 args) w := enters_of Try.func71 (by kernel_rfl) rfl
  have f67 := isWays_tells (l0_1.length : Int)
  have f69 : ∀ W : World, Kd.C (Kd.int .i64) W A0_1 l0_1.length l0_1 → Calls Try.prog 69 #[.slice A0_1 l0_1.length c0_1, .int .i64 (l0_1.length : Int)] W fun e w' => e = .returned (.bool (ordB l0_1 (l0_1.length : Int))) ∧ Below W.heap.size W w' := fun W h => impl_isOrderOf.at_ A0_1 c0_1 l0_1 _ W h hc0_1 HL.out.1
  have f70 : ∀ (b : Nat) (W : World), W.cell? ⟨b, 0, none⟩ = some (.int .i64 (l0_1.length : Int)) → b < W.heap.size → Kd.C (Kd.slice 2 (Kd.int .i64)) W A0_0 l0_0.length l0_0 → Calls Try.prog 70 #[.slice A0_0 l0_0.length c0_0, .func (.func 71) #[] #[.pointer (some ⟨b, 0, none⟩)]] W fun e w' => e = .returned (.bool (l0_0.any fun x => !ordB x (l0_1.length : Int))) ∧ Below W.heap.size W w' := fun b W h1 h2 h3 =>
    ContainsFuncRows.has (fun x => !ordB x (l0_1.length : Int)) 71 #[.pointer (some ⟨b, 0, none⟩)] e71 A0_0 c0_0 l0_0 W (impl_ValidPolicy.closure _ _ _ h1 h2) h3 HL.out.2
  have hd : decide (l0_0.length = l0_1.length) = ((l0_0.length : Int) == (l0_1.length : Int)) := by
    rw [Bool.eq_iff_iff, decide_eq_true_eq, beq_iff_eq]
    omega
  have he : validP l0_0 l0_1 = (decide (1 ≤ (l0_1.length : Int) ∧ (l0_1.length : Int) ≤ 6) && (((l0_0.length : Int) == (l0_1.length : Int)) && (ordB l0_1 (l0_1.length : Int) && !(l0_0.any fun x => !ordB x (l0_1.length : Int))))) := by
    unfold validP
    rw [List.all_eq_not_any_not, hd]
  rw [he]
  generalize (l0_0.any fun x => !ordB x (l0_1.length : Int)) = b4 at f70 ⊢
  generalize ordB l0_1 (l0_1.length : Int) = b3 at f69 ⊢
  generalize decide (1 ≤ (l0_1.length : Int) ∧ (l0_1.length : Int) ≤ 6) = b1 at f67 ⊢
  generalize hb2 : ((l0_0.length : Int) == (l0_1.length : Int)) = b2
  clear hd he e71
  go_enter Try.func35, Try.ntmps35
  go_wp2_with fail
  refine (impl_length_int64_55.calls A0_1 c0_1 l0_1 _ _ (Kd.C_alloc HR1.out _) hc0_1 rfl).mono ?_
  rintro e w' ⟨rfl, ⟨nd, rfl⟩⟩
  go_wp2_with fail
  have hB : Below w.heap.size w (((w.alloc (.cells #[.slice A0_0 l0_0.length c0_0, .slice A0_1 l0_1.length c0_1] 42)).drewN nd).alloc (.cells #[.int .i64 (l0_1.length : Int)] 2)) := below_alloc (pw_below_drewN (below_alloc (Below.refl _ w) _) nd) _
  have hS1 : ((w.alloc (.cells #[.slice A0_0 l0_0.length c0_0, .slice A0_1 l0_1.length c0_1] 42)).drewN nd).heap.size = w.heap.size + 1 := by show (w.heap.push _).size = _; rw [Array.size_push]
  have hS : (((w.alloc (.cells #[.slice A0_0 l0_0.length c0_0, .slice A0_1 l0_1.length c0_1] 42)).drewN nd).alloc (.cells #[.int .i64 (l0_1.length : Int)] 2)).heap.size = w.heap.size + 2 := by show ((w.heap.push _).push _).size = _; rw [Array.size_push, Array.size_push]
  have k2 : (((w.alloc (.cells #[.slice A0_0 l0_0.length c0_0, .slice A0_1 l0_1.length c0_1] 42)).drewN nd).alloc (.cells #[.int .i64 (l0_1.length : Int)] 2)).cell? ⟨w.heap.size + 1, 0, none⟩ = some (.int .i64 (l0_1.length : Int)) := by rw [← hS1]; exact (Boxed.new _ 2 (.int .i64 (l0_1.length : Int))).cell
  have hbl : (((w.alloc (.cells #[.slice A0_0 l0_0.length c0_0, .slice A0_1 l0_1.length c0_1] 42)).drewN nd).alloc (.cells #[.int .i64 (l0_1.length : Int)] 2)).heap[w.heap.size]? = some (.cells #[.slice A0_0 l0_0.length c0_0, .slice A0_1 l0_1.length c0_1] 42 (0, 0)) := by
    have q : ((w.alloc (.cells #[.slice A0_0 l0_0.length c0_0, .slice A0_1 l0_1.length c0_1] 42)).drewN nd).heap[w.heap.size]? = some (.cells #[.slice A0_0 l0_0.length c0_0, .slice A0_1 l0_1.length c0_1] 42 (0, 0)) := by
      show (w.heap.push _)[w.heap.size]? = _
      simp
    rw [← q]
    exact (below_alloc (Below.refl _ ((w.alloc (.cells #[.slice A0_0 l0_0.length c0_0, .slice A0_1 l0_1.length c0_1] 42)).drewN nd)) _).block w.heap.size (by rw [hS1]; omega)
  have k0 := cell_of_row _ w.heap.size 0 _ 42 (0, 0) hbl
  have k1 := cell_of_row _ w.heap.size 1 _ 42 (0, 0) hbl
  have k0' : _ = some (Value.slice A0_0 l0_0.length c0_0) := k0
  have k1' : _ = some (Value.slice A0_1 l0_1.length c0_1) := k1
  clear k0 k1 hbl hS1
  generalize (((w.alloc (.cells #[.slice A0_0 l0_0.length c0_0, .slice A0_1 l0_1.length c0_1] 42)).drewN nd).alloc (.cells #[.int .i64 (l0_1.length : Int)] 2)) = W at *
  have r0 := cell_regrown k0'
  have r1 := cell_regrown k1'
  have r2 := cell_regrown k2
  have hC0 := Kd.C_below HR0.out hB
  have hC1 := Kd.C_below HR1.out hB
  have c67 : ∀ d os, Calls Try.prog 67 #[.int .i64 (l0_1.length : Int)] (Sort.grow (redrawn W d) os) fun e w'' => e = .returned (.bool b1) ∧ ∃ p : Regrown, w'' = Sort.grow (redrawn W p.d) p.os := fun d os =>
    Calls.regrown_of ((impl_isWays.calls (l0_1.length : Int) _ _ f67).mono (by rintro e w' ⟨rfl, ⟨q, rfl⟩⟩; exact ⟨rfl, pw_below_drewN (Below.refl _ _) _⟩))
  have c68 : ∀ d os, Calls Try.prog 68 #[.slice A0_0 l0_0.length c0_0] (Sort.grow (redrawn W d) os) fun e w'' => e = .returned (.int .i64 (l0_0.length : Int)) ∧ ∃ p : Regrown, w'' = Sort.grow (redrawn W p.d) p.os := fun d os =>
    Calls.regrown_of ((impl_length_int64_68.calls A0_0 c0_0 l0_0 _ _ (Kd.C_below hC0 (below_regrown W d os)) hc0_0 rfl).mono (by rintro e w' ⟨rfl, ⟨q, rfl⟩⟩; exact ⟨rfl, pw_below_drewN (Below.refl _ _) _⟩))
  have c69 : ∀ d os, Calls Try.prog 69 #[.slice A0_1 l0_1.length c0_1, .int .i64 (l0_1.length : Int)] (Sort.grow (redrawn W d) os) fun e w'' => e = .returned (.bool b3) ∧ ∃ p : Regrown, w'' = Sort.grow (redrawn W p.d) p.os := fun d os =>
    Calls.regrown_of (f69 _ (Kd.C_below hC1 (below_regrown W d os)))
  have c70 : ∀ d os, Calls Try.prog 70 #[.slice A0_0 l0_0.length c0_0, .func (.func 71) #[] #[.pointer (some ⟨w.heap.size + 1, 0, none⟩)]] (Sort.grow (redrawn W d) os) fun e w'' => e = .returned (.bool b4) ∧ ∃ p : Regrown, w'' = Sort.grow (redrawn W p.d) p.os := fun d os =>
    Calls.regrown_of (f70 _ _ (r2 d os) (Nat.lt_of_lt_of_le (by rw [hS]; omega) (below_regrown W d os).size) (Kd.C_below hC0 (below_regrown W d os)))
  have HB := Aside0.mk hB
  clear hC0 hC1 k0' k1' k2 hB hS HR0 HR1 HL hu f67 f69 f70
  cases b1 <;> cases b2 <;> cases b3
  all_goals
    refine wp_region_quiet_below mixed (by kernel_rfl) ?_
    repeat (quiet_step (first | exact c67 _ _ | exact c68 _ _ | exact c69 _ _ | exact c70 _ _))
    refine wpQuiet_nil ?_
    intro _ hw'
    obtain ⟨⟨dq, osq⟩, hw''⟩ := hw'
    subst hw''
    go_wp2
    go_ret
    exact ⟨by first | rfl | simp, HB.out.trans ((below_regrown W dq osq).mono HB.out.size)⟩


/-! ### slices_Repeat_int64_int64: function 105: by hand -/
def slices_Repeat_int64_int64.f (l0 : List Int) (a1 : Int) : Option (List Int) := if l0.length = 1 ∧ 1 ≤ a1 ∧ a1 ≤ 1000 then some (List.replicate a1.toNat (rd l0 0)) else none
theorem slices_Repeat_int64_int64.calls (A0 : Option Addr) (c0 : Nat) (l0 : List Int) (a1 : Int) (r : List Int) (w : World) (hr0 : Kd.C (Kd.int .i64) w A0 l0.length l0) (hc0 : l0.length ≤ c0) (h : slices_Repeat_int64_int64.f l0 a1 = some r) :
    Calls Try.prog 105 #[.slice A0 l0.length c0, .int .i64 a1] w fun e w' => ∃ v0_ : Value, e = .returned (v0_) ∧ Kd.R (Kd.int .i64) 2 w' w.heap.size (fun _ => True) v0_ r ∧ Below w.heap.size w w' := by
  unfold slices_Repeat_int64_int64.f at h
  by_cases hl : l0.length = 1 ∧ 1 ≤ a1 ∧ a1 ≤ 1000
  · rw [if_pos hl] at h
    obtain rfl := Option.some.inj h
    obtain ⟨v, rfl⟩ : ∃ v, l0 = [v] := by
      match l0, hl.1 with
      | [v], _ => exact ⟨v, rfl⟩
    obtain ⟨c, rfl⟩ := Int.eq_ofNat_of_zero_le (show 0 ≤ a1 by omega)
    rw [Int.toNat_natCast]
    exact Rep.repeat_at v c (by omega) (by omega) A0 c0 w hr0 hc0
  · rw [if_neg hl] at h
    cases h


/-! ### impl_Policy_empty: function 83 -/
def impl_Policy_empty.f (l0_0 : List (List Int)) (l0_1 : List Int) : Option (List Int) := (slices_Repeat_int64_int64.f (([(-1)] : List Int)) (l0_1.length : Int)).bind fun t150 => (some t150)
set_option maxHeartbeats 8000000 in
set_option maxRecDepth 100000 in
theorem impl_Policy_empty.calls (A0_0 : Option Addr) (c0_0 : Nat) (l0_0 : List (List Int)) (A0_1 : Option Addr) (c0_1 : Nat) (l0_1 : List Int) (r : List Int) (w : World) (hr0_0 : Kd.C (Kd.slice 2 (Kd.int .i64)) w A0_0 l0_0.length l0_0) (hc0_0 : l0_0.length ≤ c0_0) (hr0_1 : Kd.C (Kd.int .i64) w A0_1 l0_1.length l0_1) (hc0_1 : l0_1.length ≤ c0_1) (h : impl_Policy_empty.f l0_0 l0_1 = some r) :
    Calls Try.prog 83 #[.agg #[.slice A0_0 l0_0.length c0_0, .slice A0_1 l0_1.length c0_1]] w fun e w' => ∃ v0_ : Value, e = .returned (v0_) ∧ Kd.R (Kd.int .i64) 2 w' w.heap.size (fun _ => True) v0_ r ∧ Below w.heap.size w w' := by
  have hu42 := Try.underlying42
  have HR0_0 := Aside0.mk hr0_0
  have HC0_0 := Aside0.mk hc0_0
  clear hr0_0 hc0_0
  have HR0_1 := Aside0.mk hr0_1
  have HC0_1 := Aside0.mk hc0_1
  clear hr0_1 hc0_1
  have HB := Aside0.mk (Below.refl w.heap.size w)
  have H : ((slices_Repeat_int64_int64.f (([(-1)] : List Int)) (l0_1.length : Int)).bind fun t150 => (some t150)) = some r := h
  clear h
  obtain ⟨y147, hy147⟩ : ∃ y_ : List Int, y_ = (([(-1)] : List Int)) := ⟨_, rfl⟩
  replace H : ((slices_Repeat_int64_int64.f y147 (l0_1.length : Int)).bind fun t150 => (some t150)) = some r := by first | (rw [hy147]; with_reducible exact H) | (have H2_ := (Option.bind_some _ _).symm.trans H; rw [hy147]; with_reducible exact H2_) | (have H2_ := (Option.bind_some _ _).symm.trans H; with_reducible exact H2_) | with_reducible exact H | (rw [hy147]; exact H) | exact H
  have Ny147 := Aside0.mk hy147
  clear hy147
  replace H := Option.bind_eq_some_iff.mp H
  obtain ⟨t150, A20, H⟩ := H
  replace H : (some t150) = some r := H
  have A2 := Aside0.mk A20
  clear A20
  obtain rfl := Option.some.inj H
  go_enter Try.func83, Try.ntmps83
  go_wp2_with (first | ((with_reducible refine gate_dst (N := 1) rfl ?_); refine box_event ?hg (N := 1) ?hd (cs := #[.slice A0_0 l0_0.length c0_0, .slice A0_1 l0_1.length c0_1]) (t := 42) ?hr ?_; (case hd => rfl); (case hg => rfl); (case hr => first | (go_simp; done) | (go_simp; rfl)); intro gb146 hg w3 hbox hb; have n0_ := Aside0.mk (below_step (by repeat (first | (with_reducible first | exact HB.out | apply below_alloc | apply pw_below_drewN | apply below_drew1) | exact HB.out)) hb); have n1_ := Aside0.mk (hbox); have n2_ := Aside0.mk ((by rw [hg]; exact (below_size (by repeat (first | (with_reducible first | exact HB.out | apply below_alloc | apply pw_below_drewN | apply below_drew1) | exact HB.out))) : w.heap.size ≤ gb146)); have n3_ := Aside0.mk ((by rw [hg]; exact (below_size (by repeat (first | (with_reducible first | exact HB.out | apply below_alloc | apply pw_below_drewN | apply below_drew1) | exact HB.out))) : w.heap.size ≤ gb146)); clear HB; have HB := n0_; have BK146 := n1_; have GW146 := n2_; have GE146 := n3_; clear n0_ n1_ n2_ n3_; clear hb hbox hg) | ((with_reducible refine gate_dst (N := 3) rfl ?_); refine Kd.R_lit (Kd.int .i64) _ 2 ?hg (N := 3) ?hd (xs := ([(-1)] : List Int)) (inner := [.int .i64 (-1)]) (ok := fun _ => True) (okp := fun _ => True) ?hr ?hp (fun _ hk => hk) trivial (Below.refl _ _) (Nat.le_refl _) (by simp) ?_; (case hd => rfl); (case hg => rfl); (case hr => first | (go_simp; done) | (go_simp; rfl)); (case hp => exact (Reps.one (show Kd.M (Kd.int .i64) _ _ _ (-1) [.int .i64 (-1)] from rfl) (Reps.none _ _))); intro v148 w4 ho5 hb hg_ hnew_; clear hg_ hnew_; (first | rw [← Ny147.out] at ho5 | (simp only [Int.reduceToNat] at ho5; rw [← Ny147.out] at ho5)); have n0_ := Aside0.mk (Kd.R_lower ho5 (below_size (by repeat (first | (with_reducible first | exact HB.out | apply below_alloc | apply pw_below_drewN | apply below_drew1 | refine below_set ?_ GE146.out) | exact HB.out)))); have n1_ := Aside0.mk (blk_below (g := gb146) (o := .cells #[.slice A0_0 l0_0.length c0_0, .slice A0_1 l0_1.length c0_1] 42 (0, 0)) (by (with_reducible repeat (first | refine blk_drewN ?_ _ | refine blk_drew ?_ | refine blk_alloc ?_ _)); exact BK146.out) hb); have n2_ := Aside0.mk (below_step (by repeat (first | (with_reducible first | exact HB.out | apply below_alloc | apply pw_below_drewN | apply below_drew1 | refine below_set ?_ GE146.out) | exact HB.out)) hb); clear BK146; clear HB; have HO149 := n0_; have BK146 := n1_; have HB := n2_; clear n0_ n1_ n2_; clear hb ho5; have hcz6_0 : w4.cell? ⟨gb146, 0, none⟩ = some (.slice A0_0 l0_0.length c0_0) := (blk_cell BK146.out 0).trans rfl; have hcz6_1 : w4.cell? ⟨gb146, 1, none⟩ = some (.slice A0_1 l0_1.length c0_1) := (blk_cell BK146.out 1).trans rfl; have hfz6_0 := blk_frozen BK146.out 0; have hfz6_1 := blk_frozen BK146.out 1; obtain ⟨Ao7, co7, eo7⟩ := Kd.R_slice HO149.out; subst eo7) | ((with_reducible refine gate_callee (f := 105) rfl ?_); refine goesL_ (some 7) rfl rfl Try.func105 (by kernel_rfl) rfl #[.slice Ao7 y147.length co7, .int .i64 (l0_1.length : Int)] rfl (by (try simp only [List.map_toArray, List.map_cons, List.map_nil]); first | done | rfl | (simp only [List.length_drop, List.length_take]; rfl)) ?_; (with_reducible refine (slices_Repeat_int64_int64.calls _ _ y147 (l0_1.length : Int) t150 _ ?side1 ?side2 A2.out).mono ?_); (case side1 => repeat (first | exact (Kd.R_reads' HO149.out).2.2 | (with_reducible refine Kd.C_alloc ?_ _) | (with_reducible refine Kd.C_drewN ?_ _) | (with_reducible refine Kd.C_drew ?_))); (case side2 => exact (Kd.R_reads' HO149.out).2.1); rintro e w8 ⟨v151, rfl, ho0, hb⟩; refine ⟨_, rfl, ?_⟩; have n0_ := Aside0.mk (Kd.R_elder' (by (with_reducible repeat (first | apply Kd.R_alloc | apply Kd.R_drewN | apply Kd.R_drew)); exact HO149.out) (Kd.R_base ho0) hb); have n1_ := Aside0.mk (Kd.R_lower (Kd.R_new' ho0 (Kd.R_lt (by (with_reducible repeat (first | apply Kd.R_alloc | apply Kd.R_drewN | apply Kd.R_drew)); exact HO149.out))) (below_size (by repeat (first | (with_reducible first | exact HB.out | apply below_alloc | apply pw_below_drewN | apply below_drew1 | refine below_set ?_ GE146.out) | exact HB.out)))); have n2_ := Aside0.mk (blk_below (g := gb146) (o := .cells #[.slice A0_0 l0_0.length c0_0, .slice A0_1 l0_1.length c0_1] 42 (0, 0)) (by (with_reducible repeat (first | refine blk_drewN ?_ _ | refine blk_drew ?_ | refine blk_alloc ?_ _)); exact BK146.out) hb); have n3_ := Aside0.mk (below_step (by repeat (first | (with_reducible first | exact HB.out | apply below_alloc | apply pw_below_drewN | apply below_drew1 | refine below_set ?_ GE146.out) | exact HB.out)) hb); clear HO149; clear BK146; clear HB; have HO149 := n0_; have HO152 := n1_; have BK146 := n2_; have HB := n3_; clear n0_ n1_ n2_ n3_; (try clear hb); (try clear hb2); (try clear hk); (try clear hi); (try clear ho0)))
  go_ret
  exact ⟨_, by first | rfl | (simp [errW_none, errW_some] <;> rfl) | (simp [*, errW_none, errW_some] <;> rfl), by (with_reducible repeat (first | apply Kd.R_alloc | apply Kd.R_drewN | apply Kd.R_drew)); exact Kd.R_mono HO152.out (fun _ hk => trivial), by repeat (first | (with_reducible first | exact HB.out | apply below_alloc | apply pw_below_drewN | apply below_drew1 | refine below_set ?_ GE146.out) | exact HB.out)⟩

/-! ### impl_EmptyContents: function 46 -/
def impl_EmptyContents.f (l0_0 : List (List Int)) (l0_1 : List Int) : Option (List Int × Bool) := (impl_ValidPolicy.f l0_0 l0_1).bind fun t154 => (if t154 = true then ((impl_Policy_empty.f l0_0 l0_1).bind fun t155 => (some (t155, true))) else (some (([] : List Int), false)))
set_option maxHeartbeats 8000000 in
set_option maxRecDepth 100000 in
theorem impl_EmptyContents.calls (A0_0 : Option Addr) (c0_0 : Nat) (l0_0 : List (List Int)) (A0_1 : Option Addr) (c0_1 : Nat) (l0_1 : List Int) (r1 : List Int) (r2 : Bool) (w : World) (hr0_0 : Kd.C (Kd.slice 2 (Kd.int .i64)) w A0_0 l0_0.length l0_0) (hc0_0 : l0_0.length ≤ c0_0) (hr0_1 : Kd.C (Kd.int .i64) w A0_1 l0_1.length l0_1) (hc0_1 : l0_1.length ≤ c0_1) (h : impl_EmptyContents.f l0_0 l0_1 = some (r1, r2)) :
    Calls Try.prog 46 #[.agg #[.slice A0_0 l0_0.length c0_0, .slice A0_1 l0_1.length c0_1]] w fun e w' => ∃ v0_ : Value, e = .returned (.tuple #[v0_, .bool r2]) ∧ Kd.R (Kd.int .i64) 2 w' w.heap.size (fun _ => True) v0_ r1 ∧ Below w.heap.size w w' := by
  have hu42 := Try.underlying42
  have HR0_0 := Aside0.mk hr0_0
  have HC0_0 := Aside0.mk hc0_0
  clear hr0_0 hc0_0
  have HR0_1 := Aside0.mk hr0_1
  have HC0_1 := Aside0.mk hc0_1
  clear hr0_1 hc0_1
  have HB := Aside0.mk (Below.refl w.heap.size w)
  have H : ((impl_ValidPolicy.f l0_0 l0_1).bind fun t154 => (if t154 = true then ((impl_Policy_empty.f l0_0 l0_1).bind fun t155 => (some (t155, true))) else (some (([] : List Int), false)))) = some (r1, r2) := h
  clear h
  replace H := Option.bind_eq_some_iff.mp H
  obtain ⟨t154, A20, H⟩ := H
  replace H : (if t154 = true then ((impl_Policy_empty.f l0_0 l0_1).bind fun t155 => (some (t155, true))) else (some (([] : List Int), false))) = some (r1, r2) := H
  have A2 := Aside0.mk A20
  clear A20
  by_cases c3 : t154 = true
  · subst c3
    have H1 : ((impl_Policy_empty.f l0_0 l0_1).bind fun t155 => (some (t155, true))) = some (r1, r2) := by rw [if_pos rfl] at H; exact H
    clear H
    have H := H1
    clear H1
    replace H := Option.bind_eq_some_iff.mp H
    obtain ⟨t155, A40, H⟩ := H
    replace H : (some (t155, true)) = some (r1, r2) := H
    have A4 := Aside0.mk A40
    clear A40
    simp only [Option.some.injEq, Prod.mk.injEq] at H
    obtain ⟨rfl, rfl⟩ := H
    go_enter Try.func46, Try.ntmps46
    go_wp2_with (first | ((with_reducible refine gate_dst (N := 1) rfl ?_); refine box_event ?hg (N := 1) ?hd (cs := #[.slice A0_0 l0_0.length c0_0, .slice A0_1 l0_1.length c0_1]) (t := 42) ?hr ?_; (case hd => rfl); (case hg => rfl); (case hr => first | (go_simp; done) | (go_simp; rfl)); intro gb153 hg w5 hbox hb; have n0_ := Aside0.mk (below_step (by repeat (first | (with_reducible first | exact HB.out | apply below_alloc | apply pw_below_drewN | apply below_drew1) | exact HB.out)) hb); have n1_ := Aside0.mk (hbox); have n2_ := Aside0.mk ((by rw [hg]; exact (below_size (by repeat (first | (with_reducible first | exact HB.out | apply below_alloc | apply pw_below_drewN | apply below_drew1) | exact HB.out))) : w.heap.size ≤ gb153)); have n3_ := Aside0.mk ((by rw [hg]; exact (below_size (by repeat (first | (with_reducible first | exact HB.out | apply below_alloc | apply pw_below_drewN | apply below_drew1) | exact HB.out))) : w.heap.size ≤ gb153)); clear HB; have HB := n0_; have BK153 := n1_; have GW153 := n2_; have GE153 := n3_; clear n0_ n1_ n2_ n3_; clear hb hbox hg; have hcz6_0 : w5.cell? ⟨gb153, 0, none⟩ = some (.slice A0_0 l0_0.length c0_0) := (blk_cell BK153.out 0).trans rfl; have hcz6_1 : w5.cell? ⟨gb153, 1, none⟩ = some (.slice A0_1 l0_1.length c0_1) := (blk_cell BK153.out 1).trans rfl; have hfz6_0 := blk_frozen BK153.out 0; have hfz6_1 := blk_frozen BK153.out 1) | ((with_reducible refine gate_callee (f := 35) rfl ?_); refine goesL_ (some 5) rfl rfl Try.func35 (by kernel_rfl) rfl #[.agg #[.slice A0_0 l0_0.length c0_0, .slice A0_1 l0_1.length c0_1]] rfl (by (try simp only [List.map_toArray, List.map_cons, List.map_nil]); first | done | rfl | (simp only [List.length_drop, List.length_take]; rfl)) ?_; (with_reducible refine (impl_ValidPolicy.calls _ _ l0_0 _ _ l0_1 true _ ?side1 ?side2 ?side3 ?side4 A2.out).mono ?_); (case side1 => repeat (first | exact (Kd.C_below HR0_0.out HB.out) | (with_reducible refine Kd.C_alloc ?_ _) | (with_reducible refine Kd.C_drewN ?_ _) | (with_reducible refine Kd.C_drew ?_))); (case side2 => exact HC0_0.out); (case side3 => repeat (first | exact (Kd.C_below HR0_1.out HB.out) | (with_reducible refine Kd.C_alloc ?_ _) | (with_reducible refine Kd.C_drewN ?_ _) | (with_reducible refine Kd.C_drew ?_))); (case side4 => exact HC0_1.out); rintro e w7 ⟨rfl, hb⟩; refine ⟨_, rfl, ?_⟩; have n0_ := Aside0.mk (blk_below (g := gb153) (o := .cells #[.slice A0_0 l0_0.length c0_0, .slice A0_1 l0_1.length c0_1] 42 (0, 0)) (by (with_reducible repeat (first | refine blk_drewN ?_ _ | refine blk_drew ?_ | refine blk_alloc ?_ _)); exact BK153.out) hb); have n1_ := Aside0.mk (below_step (by repeat (first | (with_reducible first | exact HB.out | apply below_alloc | apply pw_below_drewN | apply below_drew1 | refine below_set ?_ GE153.out) | exact HB.out)) hb); clear BK153; clear HB; have BK153 := n0_; have HB := n1_; clear n0_ n1_; (try clear hb); (try clear hb2); (try clear hk); (try clear hi); have hcz8_0 : w7.cell? ⟨gb153, 0, none⟩ = some (.slice A0_0 l0_0.length c0_0) := (blk_cell BK153.out 0).trans rfl; have hcz8_1 : w7.cell? ⟨gb153, 1, none⟩ = some (.slice A0_1 l0_1.length c0_1) := (blk_cell BK153.out 1).trans rfl; have hfz8_0 := blk_frozen BK153.out 0; have hfz8_1 := blk_frozen BK153.out 1) | ((with_reducible refine gate_callee (f := 83) rfl ?_); refine goesL_ (some 8) rfl rfl Try.func83 (by kernel_rfl) rfl #[.agg #[.slice A0_0 l0_0.length c0_0, .slice A0_1 l0_1.length c0_1]] rfl (by (try simp only [List.map_toArray, List.map_cons, List.map_nil]); first | done | rfl | (simp only [List.length_drop, List.length_take]; rfl)) ?_; (with_reducible refine (impl_Policy_empty.calls _ _ l0_0 _ _ l0_1 t155 _ ?side1 ?side2 ?side3 ?side4 A4.out).mono ?_); (case side1 => repeat (first | exact (Kd.C_below HR0_0.out HB.out) | (with_reducible refine Kd.C_alloc ?_ _) | (with_reducible refine Kd.C_drewN ?_ _) | (with_reducible refine Kd.C_drew ?_))); (case side2 => exact HC0_0.out); (case side3 => repeat (first | exact (Kd.C_below HR0_1.out HB.out) | (with_reducible refine Kd.C_alloc ?_ _) | (with_reducible refine Kd.C_drewN ?_ _) | (with_reducible refine Kd.C_drew ?_))); (case side4 => exact HC0_1.out); rintro e w9 ⟨v156, rfl, ho0, hb⟩; refine ⟨_, rfl, ?_⟩; have n0_ := Aside0.mk (Kd.R_lower ho0 (below_size (by repeat (first | (with_reducible first | exact HB.out | apply below_alloc | apply pw_below_drewN | apply below_drew1 | refine below_set ?_ GE153.out) | exact HB.out)))); have n1_ := Aside0.mk (blk_below (g := gb153) (o := .cells #[.slice A0_0 l0_0.length c0_0, .slice A0_1 l0_1.length c0_1] 42 (0, 0)) (by (with_reducible repeat (first | refine blk_drewN ?_ _ | refine blk_drew ?_ | refine blk_alloc ?_ _)); exact BK153.out) hb); have n2_ := Aside0.mk (below_step (by repeat (first | (with_reducible first | exact HB.out | apply below_alloc | apply pw_below_drewN | apply below_drew1 | refine below_set ?_ GE153.out) | exact HB.out)) hb); clear BK153; clear HB; have HO157 := n0_; have BK153 := n1_; have HB := n2_; clear n0_ n1_ n2_; (try clear hb); (try clear hb2); (try clear hk); (try clear hi); (try clear ho0)))
    go_ret2
    exact ⟨_, by first | rfl | (simp [errW_none, errW_some] <;> rfl) | (simp [*, errW_none, errW_some] <;> rfl), by (with_reducible repeat (first | apply Kd.R_alloc | apply Kd.R_drewN | apply Kd.R_drew)); exact HO157.out, by repeat (first | (with_reducible first | exact HB.out | apply below_alloc | apply pw_below_drewN | apply below_drew1 | refine below_set ?_ GE153.out) | exact HB.out)⟩
  · replace c3 := Bool.eq_false_iff.mpr c3
    subst c3
    have H1 : (some (([] : List Int), false)) = some (r1, r2) := by rw [if_neg (show ¬ (false = true) by decide)] at H; exact H
    clear H
    have H := H1
    clear H1
    simp only [Option.some.injEq, Prod.mk.injEq] at H
    obtain ⟨rfl, rfl⟩ := H
    go_enter Try.func46, Try.ntmps46
    go_wp2_with (first | ((with_reducible refine gate_dst (N := 1) rfl ?_); refine box_event ?hg (N := 1) ?hd (cs := #[.slice A0_0 l0_0.length c0_0, .slice A0_1 l0_1.length c0_1]) (t := 42) ?hr ?_; (case hd => rfl); (case hg => rfl); (case hr => first | (go_simp; done) | (go_simp; rfl)); intro gb153 hg w10 hbox hb; have n0_ := Aside0.mk (below_step (by repeat (first | (with_reducible first | exact HB.out | apply below_alloc | apply pw_below_drewN | apply below_drew1) | exact HB.out)) hb); have n1_ := Aside0.mk (hbox); have n2_ := Aside0.mk ((by rw [hg]; exact (below_size (by repeat (first | (with_reducible first | exact HB.out | apply below_alloc | apply pw_below_drewN | apply below_drew1) | exact HB.out))) : w.heap.size ≤ gb153)); have n3_ := Aside0.mk ((by rw [hg]; exact (below_size (by repeat (first | (with_reducible first | exact HB.out | apply below_alloc | apply pw_below_drewN | apply below_drew1) | exact HB.out))) : w.heap.size ≤ gb153)); clear HB; have HB := n0_; have BK153 := n1_; have GW153 := n2_; have GE153 := n3_; clear n0_ n1_ n2_ n3_; clear hb hbox hg; have hcz11_0 : w10.cell? ⟨gb153, 0, none⟩ = some (.slice A0_0 l0_0.length c0_0) := (blk_cell BK153.out 0).trans rfl; have hcz11_1 : w10.cell? ⟨gb153, 1, none⟩ = some (.slice A0_1 l0_1.length c0_1) := (blk_cell BK153.out 1).trans rfl; have hfz11_0 := blk_frozen BK153.out 0; have hfz11_1 := blk_frozen BK153.out 1) | ((with_reducible refine gate_callee (f := 35) rfl ?_); refine goesL_ (some 5) rfl rfl Try.func35 (by kernel_rfl) rfl #[.agg #[.slice A0_0 l0_0.length c0_0, .slice A0_1 l0_1.length c0_1]] rfl (by (try simp only [List.map_toArray, List.map_cons, List.map_nil]); first | done | rfl | (simp only [List.length_drop, List.length_take]; rfl)) ?_; (with_reducible refine (impl_ValidPolicy.calls _ _ l0_0 _ _ l0_1 false _ ?side1 ?side2 ?side3 ?side4 A2.out).mono ?_); (case side1 => repeat (first | exact (Kd.C_below HR0_0.out HB.out) | (with_reducible refine Kd.C_alloc ?_ _) | (with_reducible refine Kd.C_drewN ?_ _) | (with_reducible refine Kd.C_drew ?_))); (case side2 => exact HC0_0.out); (case side3 => repeat (first | exact (Kd.C_below HR0_1.out HB.out) | (with_reducible refine Kd.C_alloc ?_ _) | (with_reducible refine Kd.C_drewN ?_ _) | (with_reducible refine Kd.C_drew ?_))); (case side4 => exact HC0_1.out); rintro e w12 ⟨rfl, hb⟩; refine ⟨_, rfl, ?_⟩; have n0_ := Aside0.mk (blk_below (g := gb153) (o := .cells #[.slice A0_0 l0_0.length c0_0, .slice A0_1 l0_1.length c0_1] 42 (0, 0)) (by (with_reducible repeat (first | refine blk_drewN ?_ _ | refine blk_drew ?_ | refine blk_alloc ?_ _)); exact BK153.out) hb); have n1_ := Aside0.mk (below_step (by repeat (first | (with_reducible first | exact HB.out | apply below_alloc | apply pw_below_drewN | apply below_drew1 | refine below_set ?_ GE153.out) | exact HB.out)) hb); clear BK153; clear HB; have BK153 := n0_; have HB := n1_; clear n0_ n1_; (try clear hb); (try clear hb2); (try clear hk); (try clear hi)))
    go_ret2
    exact ⟨_, by first | rfl | (simp [errW_none, errW_some] <;> rfl) | (simp [*, errW_none, errW_some] <;> rfl), by first | exact Kd.R_nil _ _ _ _ _ | exact Kd.N_nil _ _ _ _ _ | exact Kd.V_nil _ _ _ _ _ | exact Kd.Q_nil _ _ _ _ _ | exact Kd.S_nil _ _ _ _ _, by repeat (first | (with_reducible first | exact HB.out | apply below_alloc | apply pw_below_drewN | apply below_drew1 | refine below_set ?_ GE153.out) | exact HB.out)⟩

/-! ### laws_markInt64SS: function 84: by hand -/
def laws_markInt64SS.l0 : Nat → List (List Int) → Int → Int → Option (Int × List (List Int))
  | 0, _, _, _ => none
  | k + 1, x0, x1, x5 => if x5 < (x0.length : Int) then (if 0 ≤ x5 then (laws_markInt64S.f k (x0.getD x5.toNat []) x1).bind fun t => laws_markInt64SS.l0 k (x0.set x5.toNat t.2) t.1 (wrap64 (x5 + 1)) else none) else some (x1, x0)
theorem grown_of_kept {w0 w w' : World} {row : Option Nat} (h1 : Below w0.heap.size w0 w) (h2 : Below w0.heap.size w0 w') (hk : Kept w w' (fun k => row = some k)) : w.grownBy w' row :=
  ⟨h2.os.trans h1.os.symm, h2.tape.trans h1.tape.symm, h2.output.trans h1.output.symm, hk.1, fun i hi hn => hk.2 i hi (fun e => hn e.symm)⟩
set_option maxHeartbeats 8000000 in
set_option maxRecDepth 100000 in
theorem laws_markInt64SS.calls (k : Nat) (P0_ : Nat → Prop) (u : Value) (l0 : List (List Int)) (a1 : Int) (r1 : Int) (r2 : List (List Int)) (w0 w : World) (hB : Below w0.heap.size w0 w) (ho0 : Kd.S (Kd.slice 2 (Kd.int .i64)) 24 w w0.heap.size P0_ u l0) (h : laws_markInt64SS.l0 k l0 a1 0 = some (r1, r2)) :
    Calls Try.prog 84 #[u, .int .i64 a1] w fun e w' => e = .returned (.int .i64 r1) ∧ Kd.S (Kd.slice 2 (Kd.int .i64)) 24 w' w0.heap.size P0_ u r2 ∧ Below w0.heap.size w0 w' ∧ Kept w w' P0_ := by
  obtain ⟨A, c, rfl⟩ := Kd.S_slice ho0
  have HS := Aside0.mk ho0
  have HB := Aside0.mk hB
  have HK := Aside0.mk (Kept.refl w P0_)
  have H' := Aside0.mk h
  clear ho0 hB h
  go_enter Try.func84, Try.ntmps84
  go_wp2
  go_loopg [1, 5] k (fun kq v1 v5 w' => ∃ (x0 : List (List Int)) (x1 x5 : Int), v1 = .int .i64 x1 ∧ v5 = .int .i64 x5 ∧ Aside0 (laws_markInt64SS.l0 kq x0 x1 x5 = some (r1, r2)) ∧ Aside0 (kq ≤ k) ∧ Aside0 (x0.length = l0.length) ∧ Aside0 (Kd.S (Kd.slice 2 (Kd.int .i64)) 24 w' w0.heap.size P0_ (.slice A l0.length c) x0) ∧ Aside0 (Kept w w' P0_) ∧ Aside0 (Below w0.heap.size w0 w'))
  case atStart => exact ⟨l0, a1, 0, rfl, rfl, H', ⟨Nat.le_refl _⟩, ⟨rfl⟩, HS, HK, HB⟩
  case round =>
    clear H' HS HB HK
    obtain ⟨x0, x1, x5, rfl, rfl, HA, HK1, HL, HS, HK, HB⟩ := hrel
    cases gk with
    | zero => exact absurd HA.out (by simp [laws_markInt64SS.l0])
    | succ k1 =>
      have H := HA.out
      clear HA
      simp only [laws_markInt64SS.l0] at H
      have hl := HL.out
      by_cases c3 : x5 < (l0.length : Int)
      · rw [if_pos (by omega)] at H
        by_cases c4 : 0 ≤ x5
        · rw [if_pos c4] at H
          obtain ⟨t, ht, H⟩ := Option.bind_eq_some_iff.mp H
          have H' := Aside0.mk H
          have HT := Aside0.mk ht
          clear H ht
          obtain ⟨g, cap, ev, -, -, -⟩ := Kd.S_form HS.out (by omega)
          injection ev with e1 e2 e3
          subst e1 e3
          clear e2
          obtain ⟨oki, cs, hcl, hM, hcc, hok, hbk⟩ := Kd.S_borrow HS.out [] x5 c4 (by omega)
          obtain ⟨ve, rfl, ge⟩ := hM
          have hcell := hcc 0 _ rfl
          obtain ⟨Ai, ci, rfl⟩ := Kd.R_slice ge
          rw [Nat.add_zero, show (Kd.slice 2 (Kd.int .i64)).sz = 1 from rfl, Nat.mul_one, add_plain] at hcell
          have hcall := laws_markInt64S.calls k1 _ _ _ x1 t.1 t.2 w0 wr HB.out (Kd.R_tight rfl ge) HT.out
          have HG := Aside0.mk ge
          have HOK := Aside0.mk hok
          have HBK := Aside0.mk @hbk
          clear ge hok hbk hcc hcl hl
          have c3b : decide (x5 < (l0.length : Int)) = true := decide_eq_true c3
          generalize x0.getD x5.toNat [] = row at hcall hcell HG HBK
          go_wp2_with fail
          refine hcall.mono ?_
          clear hcall
          rintro e w2 ⟨rfl, hR, hb2, hk2⟩
          have hg := grown_of_kept HB.out hb2 (hk2.mono (fun k hk => hk.symm))
          have hin : ∀ k, (Value.slice Ai row.length ci).ownBlock = some k → oki k := fun k hk => HG.out.1 k hk
          have hR2 := Kd.R_mono (Kd.R_tight rfl hR) (fun k hk => hin k hk.symm)
          have n1 := Aside0.mk (HBK.out hg hin (Kd.M_row hR2))
          have n2 := Aside0.mk (HK.out.then_ hk2 (fun k hk => .inl (HOK.out k (hin k hk.symm)).1))
          have n3 := Aside0.mk hb2
          clear hR hb2 hk2 hg hin hR2 HBK HOK HG HK HB HS
          go_wp2
          go_roundg k1
          case measure => have := HK1.out; omega
          case rel => exact ⟨x0.set x5.toNat t.2, t.1, wrap64 (x5 + 1), rfl, (by first | rfl | (simp; done)), H', ⟨by have := HK1.out; omega⟩, ⟨by rw [List.length_set]; exact HL.out⟩, n1, n2, n3⟩
        · rw [if_neg c4] at H
          cases H
      · rw [if_neg (by omega)] at H
        obtain ⟨rfl, rfl⟩ := Prod.mk.inj (Option.some.inj H)
        clear H hl
        have c3b : decide (x5 < (l0.length : Int)) = false := decide_eq_false c3
        go_wp2
        go_ret
        exact ⟨rfl, HS.out, HB.out, HK.out⟩
/-! carried over calls -/
theorem S_kept {α : Type} {d : Kd α} {e : Nat} {w w' : World} {base : Nat} {ok P : Nat → Prop} {v : Value} {xs : List α} (h : Kd.S d e w base ok v xs) (hk : Kept w w' P) (hd : ∀ k, ok k → ¬ P k) : Kd.S d e w' base ok v xs :=
  Kd.S_step h (fun k hok hlt => hk.2 k hlt (hd k hok))
theorem R_kept {α : Type} {d : Kd α} {e : Nat} {w w' : World} {base : Nat} {ok P : Nat → Prop} {v : Value} {xs : List α} (h : Kd.R d e w base ok v xs) (hk : Kept w w' P) (hd : ∀ k, ok k → ¬ P k) : Kd.R d e w' base ok v xs :=
  Kd.R_step h (fun k hok hlt => hk.2 k hlt (hd k hok))
theorem C_keptB {α : Type} {d : Kd α} {w w' : World} {A : Option Addr} {n : Nat} {xs : List α} (h : d.C w A n xs) (hb : Below w.heap.size w w') : d.C w' A n xs := Kd.C_below h hb
theorem S_box {α : Type} {d : Kd α} {e : Nat} {w0 w1 : World} {base : Nat} {v : Value} {xs : List α} (h : Kd.S d e w1 w0.heap.size (fun _ => True) v xs) (hb : base ≤ w0.heap.size) : Kd.S d e w1 base (fun k => w0.heap.size ≤ k ∧ k < w1.heap.size) v xs :=
  Kd.S_lower (Kd.S_mono (Kd.S_bound h) (fun _ hk => ⟨hk.2.1, hk.2.2.1⟩)) hb
theorem R_box {α : Type} {d : Kd α} {e : Nat} {w0 w1 : World} {base : Nat} {v : Value} {xs : List α} (h : Kd.R d e w1 w0.heap.size (fun _ => True) v xs) (hb : base ≤ w0.heap.size) : Kd.R d e w1 base (fun k => w0.heap.size ≤ k ∧ k < w1.heap.size) v xs :=
  Kd.R_lower (Kd.R_mono (Kd.R_bound h) (fun _ hk => ⟨hk.2.1, hk.2.2.1⟩)) hb



/-! ### laws_markPolicy: function 47: by hand -/
set_option maxHeartbeats 8000000 in
set_option maxRecDepth 100000 in
theorem laws_markPolicy.calls (k : Nat) (P0_ : Nat → Prop) (u0 u1 : Value) (l0 : List (List Int)) (l1 : List Int) (a1 m1 m2 : Int) (r0 : List (List Int)) (r1 : List Int) (w0 w : World) (hB : Below w0.heap.size w0 w)
    (hS : Kd.S (Kd.slice 2 (Kd.int .i64)) 24 w w0.heap.size (fun k_ => P0_ k_ ∧ some k_ ≠ u1.ownBlock) u0 l0) (hR : Kd.R (Kd.int .i64) 2 w w0.heap.size P0_ u1 l1) (h1 : laws_markInt64SS.l0 k l0 a1 0 = some (m1, r0)) (h2 : laws_markInt64S.f k l1 m1 = some (m2, r1)) :
    Calls Try.prog 47 #[.agg #[u0, u1], .int .i64 a1] w fun e w' => e = .returned (.int .i64 m2) ∧ Kd.S (Kd.slice 2 (Kd.int .i64)) 24 w' w0.heap.size (fun k_ => P0_ k_ ∧ some k_ ≠ u1.ownBlock) u0 r0 ∧ Kd.R (Kd.int .i64) 2 w' w0.heap.size P0_ u1 r1 ∧ Below w0.heap.size w0 w' ∧ Kept w w' P0_ := by
  have hu25 := Try.underlying42
  obtain ⟨A0, c0, rfl⟩ := Kd.S_slice hS
  obtain ⟨A1, c1, rfl⟩ := Kd.R_slice hR
  have hP := hR.1
  have hlt := Kd.R_lt hR
  have sb := Kd.S_mono (Kd.S_bound hS) (fun k_ h_ => (show (P0_ k_ ∧ some k_ ≠ (Value.slice A1 l1.length c1).ownBlock) ∧ k_ < w.heap.size from ⟨h_.1, h_.2.2.1⟩))
  have hR1 := Kd.R_tight rfl hR
  generalize l0.length = n0 at sb ⊢
  generalize l1.length = n1 at hR1 hP hlt sb ⊢
  have HS := Aside0.mk sb
  have HR := Aside0.mk hR1
  have HP := Aside0.mk (show ∀ k_, (Value.slice A1 n1 c1).ownBlock = some k_ → P0_ k_ ∧ k_ < w.heap.size from fun k_ e_ => ⟨hP k_ e_, hlt k_ e_⟩)
  have HB := Aside0.mk hB
  have E1 := Aside0.mk h1
  have E2 := Aside0.mk h2
  clear hB hS hR h1 h2 hP hlt sb hR1
  go_enter Try.func47, Try.ntmps47
  go_wp2_with fail
  generalize hw1 : w.alloc (.cells #[.slice A0 n0 c0, .slice A1 n1 c1] 42) = w1
  have BK : w1.heap[w.heap.size]? = some (.cells #[.slice A0 n0 c0, .slice A1 n1 c1] 42 (0, 0)) := by
    rw [← hw1]; show (w.heap.push _)[w.heap.size]? = _; exact Array.getElem?_push_size
  have S1 := Aside0.mk (Kd.S_alloc HS.out (.cells #[.slice A0 n0 c0, .slice A1 n1 c1] 42))
  have R1 := Aside0.mk (Kd.R_alloc HR.out (.cells #[.slice A0 n0 c0, .slice A1 n1 c1] 42))
  have B1 := Aside0.mk (below_alloc HB.out (.cells #[.slice A0 n0 c0, .slice A1 n1 c1] 42))
  have K1 := Aside0.mk (Kept.alloc (Kept.refl w P0_) (.cells #[.slice A0 n0 c0, .slice A1 n1 c1] 42))
  rw [hw1] at S1 R1 B1 K1
  clear hw1 HS HR HB
  refine (laws_markInt64SS.calls k _ _ l0 a1 m1 r0 w0 _ B1.out S1.out E1.out).mono ?_
  rintro e w2 ⟨rfl, s2, b2, k2⟩
  have BK2 := blk_kept BK k2 (fun h_ => Nat.lt_irrefl _ h_.2)
  have R2 := Aside0.mk (R_kept R1.out k2 (fun k_ h1_ h2_ => h2_.1.2 h1_))
  have S2 := Aside0.mk s2
  have B2 := Aside0.mk b2
  have K2 := Aside0.mk (K1.out.then_ k2 (fun k_ h_ => .inl h_.1.1))
  have c2 : w2.cell? ⟨w.heap.size, 1, none⟩ = some (.slice A1 n1 c1) := (blk_cell BK2 1).trans rfl
  clear BK BK2 S1 R1 B1 K1 s2 b2 k2
  go_wp2_with fail
  refine (laws_markInt64S.calls k _ _ l1 m1 m2 r1 w0 _ B2.out R2.out E2.out).mono ?_
  rintro e w3 ⟨rfl, r3, b3, k3⟩
  have S3 := Aside0.mk (S_kept S2.out k3 (fun k_ h1_ h2_ => h1_.1.2 h2_))
  have R3 := Aside0.mk (Kd.R_mono (Kd.R_tight rfl r3) (fun k_ h_ => (HP.out k_ h_.symm).1))
  have B3 := Aside0.mk b3
  have K3 := Aside0.mk (K2.out.then_ k3 (fun k_ h_ => .inl (HP.out k_ h_.symm).1))
  clear c2 S2 R2 B2 K2 r3 b3 k3
  go_wp2
  go_ret
  exact ⟨rfl, Kd.S_mono S3.out (fun k_ h_ => h_.1), R3.out, B3.out, K3.out⟩
theorem pol_box {w0 w1 : World} {base : Nat} {v0 v1 : Value} {H : List (List Int)} {M : List Int} (hs : Kd.S (Kd.slice 2 (Kd.int .i64)) 24 w1 w0.heap.size (fun k_ => some k_ ≠ v1.ownBlock) v0 H) (hr : Kd.R (Kd.int .i64) 2 w1 w0.heap.size (fun _ => True) v1 M) (hb : base ≤ w0.heap.size) :
    Kd.S (Kd.slice 2 (Kd.int .i64)) 24 w1 base (fun k_ => (w0.heap.size ≤ k_ ∧ k_ < w1.heap.size) ∧ some k_ ≠ v1.ownBlock) v0 H ∧ Kd.R (Kd.int .i64) 2 w1 base (fun k_ => w0.heap.size ≤ k_ ∧ k_ < w1.heap.size) v1 M :=
  ⟨Kd.S_lower (Kd.S_mono (Kd.S_bound hs) (fun _ h_ => ⟨⟨h_.2.1, h_.2.2.1⟩, h_.1⟩)) hb, R_box hr hb⟩
/-- A new block. -/
theorem blk_new (w : World) (o : Obj) : (w.alloc o).heap[w.heap.size]? = some o := by
  show (w.heap.push _)[w.heap.size]? = _
  exact Array.getElem?_push_size
theorem size_alloc (w : World) (o : Obj) : (w.alloc o).heap.size = w.heap.size + 1 := by
  show (w.heap.push _).size = _
  rw [Array.size_push]


end Go.Proofs.Yteoacngaicchiaa.PFnExactEmptyContents
