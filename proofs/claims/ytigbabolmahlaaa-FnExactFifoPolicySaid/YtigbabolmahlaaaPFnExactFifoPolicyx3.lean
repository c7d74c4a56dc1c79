-- WRITTEN BY wip/xprint.py out of the translation, with contracts of mine put in: Lean checks it.
import Derived.Test.YtigbabolmahlaaaPFnExactFifoPolicyx0
import Derived.Test.YtigbabolmahlaaaPFnExactFifoPolicyx1
import Derived.Test.YtigbabolmahlaaaPFnExactFifoPolicyx2
namespace Go.Proofs.Ytigbabolmahlaaa.PFnExactFifoPolicy
open Go.RowKit Go.Proofs.YtigbabolmahlaaaW.PrintWords Go.Proofs.YtigbabolmahlaaaW.PrintLast Go.Proofs.YtigbabolmahlaaaW.PrintMore
attribute [local go_sem] max2_int min2_int max_two min_two max_three min_three max_four min_four   -- for this text's walks alone
set_option linter.unusedVariables false
set_option linter.unusedSimpArgs false

/-! ### impl_ascending: function 64 -/
def impl_ascending.l0 : Nat → List Int → Int → Int → Option (List Int)
  | 0, _, _, _ => none
  | k + 1, x3, x6, x7 => if x7 < x6 then (if x3.length < 17592186044416 then (impl_ascending.l0 k (x3 ++ [x7]) x6 (wrap64 (x7 + 1))) else (none)) else (some x3)
def impl_ascending.f (k : Nat) (a0 : Int) : Option (List Int) := impl_ascending.l0 k (([] : List Int)) a0 0
theorem impl_ascending.mono_l : ∀ k, (∀ y0 y1 y2, LeO (impl_ascending.l0 k y0 y1 y2) (impl_ascending.l0 (k + 1) y0 y1 y2))
  | 0 => fun _ _ _ r h => by simp [impl_ascending.l0] at h
  | k + 1 => by
    have ih0 := impl_ascending.mono_l k
    · intro y0 y1 y2
      unfold impl_ascending.l0
      repeat' first
      | (with_reducible exact ih0 _ _ _)
      | (with_reducible exact LeO.refl _)
      | (with_reducible exact LeO.none _)
      | (with_reducible refine LeO.ite ?_ ?_)
      | (with_reducible refine LeO.bind ?_ (fun _ => ?_))
      | exact ih0 _ _ _
      | exact LeO.none _
      | refine LeO.ite ?_ ?_
      | refine LeO.bind ?_ (fun _ => ?_)
theorem impl_ascending.mono : ∀ a0 k, LeO (impl_ascending.f k a0) (impl_ascending.f (k + 1) a0) := by
  intro a0 k
  have ih0 := impl_ascending.mono_l k
  unfold impl_ascending.f
  repeat' first
      | (with_reducible exact ih0 _ _ _)
      | (with_reducible exact LeO.refl _)
      | (with_reducible exact LeO.none _)
      | (with_reducible refine LeO.ite ?_ ?_)
      | (with_reducible refine LeO.bind ?_ (fun _ => ?_))
      | exact ih0 _ _ _
      | exact LeO.none _
      | refine LeO.ite ?_ ?_
      | refine LeO.bind ?_ (fun _ => ?_)
set_option maxHeartbeats 8000000 in
set_option maxRecDepth 100000 in
theorem impl_ascending.calls (k : Nat) (a0 : Int) (r : List Int) (w : World) (h : impl_ascending.f k a0 = some r) :
    Calls Try.prog 64 #[.int .i64 a0] w fun e w' => ∃ v0_ : Value, e = .returned (v0_) ∧ Kd.R (Kd.int .i64) 2 w' w.heap.size (fun _ => True) v0_ r ∧ Below w.heap.size w w' := by
  have HB := Aside0.mk (Below.refl w.heap.size w)
  have H : (impl_ascending.l0 k (([] : List Int)) a0 0) = some r := h
  clear h
  obtain ⟨y155, hy155⟩ : ∃ y_ : List Int, y_ = (([] : List Int)) := ⟨_, rfl⟩
  replace H : (impl_ascending.l0 k y155 a0 0) = some r := by first | (rw [hy155]; with_reducible exact H) | (have H2_ := (Option.bind_some _ _).symm.trans H; rw [hy155]; with_reducible exact H2_) | (have H2_ := (Option.bind_some _ _).symm.trans H; with_reducible exact H2_) | with_reducible exact H | (rw [hy155]; exact H) | exact H
  have Ny155 := Aside0.mk hy155
  clear hy155
  have H' := Aside0.mk H
  clear H
  go_enter Try.func64, Try.ntmps64
  go_wp2_with (first | ((with_reducible refine gate_dst (N := 5) rfl ?_); refine Kd.R_lit (Kd.int .i64) _ 2 ?hg (N := 5) ?hd (xs := ([] : List Int)) (inner := []) (ok := fun _ => True) (okp := fun _ => True) ?hr ?hp (fun _ hk => hk) trivial (Below.refl _ _) (Nat.le_refl _) (by simp) ?_; (case hd => rfl); (case hg => rfl); (case hr => first | (go_simp; done) | (go_simp; rfl)); (case hp => exact (Reps.none _ _)); intro v156 w2 ho3 hb hg_ hnew_; clear hg_ hnew_; (first | rw [← Ny155.out] at ho3 | (simp only [Int.reduceToNat] at ho3; rw [← Ny155.out] at ho3)); have n0_ := Aside0.mk (Kd.R_lower ho3 (below_size (by repeat (first | (with_reducible first | exact HB.out | apply below_alloc | apply pw_below_drewN | apply below_drew1) | exact HB.out)))); have n1_ := Aside0.mk (below_step (by repeat (first | (with_reducible first | exact HB.out | apply below_alloc | apply pw_below_drewN | apply below_drew1) | exact HB.out)) hb); clear HB; have HO157 := n0_; have HB := n1_; clear n0_ n1_; clear hb ho3))
  go_loopg [3, 7] k (fun kq v3 v7 w' => ∃ (x3_1 : List Int) (x7_1 : Int), v7 = .int .i64 x7_1 ∧ Aside0 (impl_ascending.l0 kq x3_1 a0 x7_1 = some r) ∧ Aside0 (kq ≤ k) ∧ Aside0 (Kd.R (Kd.int .i64) 2 w' w.heap.size (fun _ => True) v3 x3_1) ∧ Aside0 (Below w.heap.size w w'))
  case atStart => exact ⟨(y155), (0), (by first | rfl | (simp; done) | (simp [*]; done)), H', ⟨Nat.le_refl _⟩, ⟨by (with_reducible repeat (first | apply Kd.R_alloc | apply Kd.R_drewN | apply Kd.R_drew)); exact HO157.out⟩, ⟨by repeat (first | (with_reducible first | exact HB.out | apply below_alloc | apply pw_below_drewN | apply below_drew1) | exact HB.out)⟩⟩
  case round =>
    clear H'
    try clear p2
    obtain ⟨x3_1, x7_1, rfl, HA, HK1, HO_3, HB⟩ := hrel
    cases gk with
    | zero => exact absurd HA.out (by simp [impl_ascending.l0])
    | succ k1 =>
      have H := HA.out
      clear HA
      simp only [impl_ascending.l0] at H
      by_cases c4 : x7_1 < a0
      · rw [if_pos c4] at H
        have c4b0 : decide (x7_1 < a0) = true := decide_eq_true c4
        clear c4
        by_cases c5 : x3_1.length < 17592186044416
        · rw [if_pos c5] at H
          have LMc5 := Aside0.mk c5
          clear c5
          obtain ⟨y158, hy158⟩ : ∃ y_ : List Int, y_ = (x3_1 ++ [x7_1]) := ⟨_, rfl⟩
          replace H : (impl_ascending.l0 k1 y158 a0 (wrap64 (x7_1 + 1))) = some r := by first | (rw [hy158]; with_reducible exact H) | (have H2_ := (Option.bind_some _ _).symm.trans H; rw [hy158]; with_reducible exact H2_) | (have H2_ := (Option.bind_some _ _).symm.trans H; with_reducible exact H2_) | with_reducible exact H | (rw [hy158]; exact H) | exact H
          have Ny158 := Aside0.mk hy158
          clear hy158
          have H' := Aside0.mk H
          clear H
          go_wp2_with (first | ((with_reducible refine gate_builtin (b := .append) (xs := #[.tmp 10, .tmp 12]) rfl ?_); at_builtin; refine Kd.R_append (Kd.int .i64) (w0 := w) w.heap.size rfl (.tmp 10) (.tmp 12) 23 2 (.int .i64 0) 8 rfl Try.underlying23 info2 rfl (by decide) (by omega) u3 x3_1 x7_1 [.int .i64 x7_1] (fun _ => True) (fun _ => False) rfl rfl ?aP (fun _ hk => hk.elim) ?aF ?aO ?aB ?aS ?aL ?_; (case aP => exact rfl); (case aB => exact (by repeat (first | (with_reducible first | exact HB.out | apply below_alloc | apply pw_below_drewN | apply below_drew1) | exact HB.out))); (case aF => exact (fun _ _ => trivial)); (case aO => exact (by (with_reducible repeat (first | apply Kd.R_alloc | apply Kd.R_drewN | apply Kd.R_drew)); exact HO_3.out)); (case aS => exact (below_size (by repeat (first | (with_reducible first | exact HB.out | apply below_alloc | apply pw_below_drewN | apply below_drew1) | exact HB.out)))); (case aL => have := LMc5.out; omega); intro v159 w6 ho hb hg hat; rw [← Ny158.out] at ho; have n0_ := Aside0.mk (hb); have n1_ := Aside0.mk (ho); clear HB; clear HO_3; have HB := n0_; have HO160 := n1_; clear n0_ n1_; clear ho hb hg hat))
          go_roundg k1
          case measure => have := HK1.out; omega
          case rel => exact ⟨(y158), (wrap64 (x7_1 + 1)), (by first | rfl | (simp; done) | (simp [*]; done)), H', ⟨by have := HK1.out; omega⟩, ⟨by (with_reducible repeat (first | apply Kd.R_alloc | apply Kd.R_drewN | apply Kd.R_drew)); exact HO160.out⟩, ⟨by repeat (first | (with_reducible first | exact HB.out | apply below_alloc | apply pw_below_drewN | apply below_drew1) | exact HB.out)⟩⟩
        · rw [if_neg c5] at H
          exact absurd H (by simp)
      · rw [if_neg c4] at H
        have c4b0 : decide (x7_1 < a0) = false := decide_eq_false c4
        clear c4
        obtain rfl := Option.some.inj H
        go_wp2
        go_ret
        exact ⟨_, by first | rfl | (simp [errW_none, errW_some] <;> rfl) | (simp [*, errW_none, errW_some] <;> rfl), by (with_reducible repeat (first | apply Kd.R_alloc | apply Kd.R_drewN | apply Kd.R_drew)); exact HO_3.out, by repeat (first | (with_reducible first | exact HB.out | apply below_alloc | apply pw_below_drewN | apply below_drew1) | exact HB.out)⟩

/-! ### impl_inRange: function 47 -/
def impl_inRange.f (a0 : Int) (a1 : Int) (a2 : Int) : Option (Bool) := if a1 ≤ a0 then (some (decide (a0 ≤ a2))) else (some false)
set_option maxHeartbeats 8000000 in
set_option maxRecDepth 100000 in
theorem impl_inRange.calls (a0 : Int) (a1 : Int) (a2 : Int) (r : Bool) (w : World) (h : impl_inRange.f a0 a1 a2 = some r) :
    Calls Try.prog 47 #[.int .i64 a0, .int .i64 a1, .int .i64 a2] w fun e w' => e = .returned (.bool r) ∧ Drawn0 w w' := by
  have H : (if a1 ≤ a0 then (some (decide (a0 ≤ a2))) else (some false)) = some r := h
  clear h
  by_cases c4 : a1 ≤ a0
  · rw [if_pos c4] at H
    have c4b0 : decide (a1 ≤ a0) = true := decide_eq_true c4
    clear c4
    obtain rfl := Option.some.inj H
    go_enter Try.func47, Try.ntmps47
    go_wp2
    go_ret
    exact ⟨by first | rfl | (simp; done) | (simp [*]; done), by repeat (first | exact Drawn0.refl _ | apply Drawn0.step)⟩
  · rw [if_neg c4] at H
    have c4b0 : decide (a1 ≤ a0) = false := decide_eq_false c4
    clear c4
    obtain rfl := Option.some.inj H
    go_enter Try.func47, Try.ntmps47
    go_wp2
    go_ret
    exact ⟨by first | rfl | (simp; done) | (simp [*]; done), by repeat (first | exact Drawn0.refl _ | apply Drawn0.step)⟩

/-! ### impl_isWays: function 69 -/
def impl_isWays.f (a0 : Int) : Option (Bool) := (impl_inRange.f a0 1 6).bind fun t161 => (some t161)
set_option maxHeartbeats 8000000 in
set_option maxRecDepth 100000 in
theorem impl_isWays.calls (a0 : Int) (r : Bool) (w : World) (h : impl_isWays.f a0 = some r) :
    Calls Try.prog 69 #[.int .i64 a0] w fun e w' => e = .returned (.bool r) ∧ Drawn0 w w' := by
  have H : ((impl_inRange.f a0 1 6).bind fun t161 => (some t161)) = some r := h
  clear h
  replace H := Option.bind_eq_some_iff.mp H
  obtain ⟨t161, A20, H⟩ := H
  replace H : (some t161) = some r := H
  have A2 := Aside0.mk A20
  clear A20
  obtain rfl := Option.some.inj H
  go_enter Try.func69, Try.ntmps69
  go_wp2_with (first | ((with_reducible refine gate_callee (f := 47) rfl ?_); refine goesL_ (some 4) rfl rfl Try.func47 (by kernel_rfl) rfl #[.int .i64 a0, .int .i64 1, .int .i64 6] rfl (by (try simp only [List.map_toArray, List.map_cons, List.map_nil]); first | done | rfl | (simp only [List.length_drop, List.length_take]; rfl)) ?_; (with_reducible refine (impl_inRange.calls a0 1 6 t161 _ A2.out).mono ?_); rintro e w' ⟨rfl, ⟨nd, rfl⟩⟩; refine ⟨_, rfl, ?_⟩))
  go_ret
  exact ⟨by first | rfl | (simp; done) | (simp [*]; done), by repeat (first | exact Drawn0.refl _ | apply Drawn0.step)⟩

/-! ### impl_policyOf: function 40: by hand -/
theorem asc_pure0 : impl_ascending.f 20 ((0 : Nat) : Int) = some (Ins.ascL 0) := by kernel_rfl
theorem asc_pure1 : impl_ascending.f 20 ((1 : Nat) : Int) = some (Ins.ascL 1) := by kernel_rfl
theorem asc_pure2 : impl_ascending.f 20 ((2 : Nat) : Int) = some (Ins.ascL 2) := by kernel_rfl
theorem asc_pure3 : impl_ascending.f 20 ((3 : Nat) : Int) = some (Ins.ascL 3) := by kernel_rfl
theorem asc_pure4 : impl_ascending.f 20 ((4 : Nat) : Int) = some (Ins.ascL 4) := by kernel_rfl
theorem asc_pure5 : impl_ascending.f 20 ((5 : Nat) : Int) = some (Ins.ascL 5) := by kernel_rfl
theorem asc_pure6 : impl_ascending.f 20 ((6 : Nat) : Int) = some (Ins.ascL 6) := by kernel_rfl
theorem asc_pure (n : Nat) (hn : n ≤ 6) : impl_ascending.f 20 (n : Int) = some (Ins.ascL n) := by
  have : n = 0 ∨ n = 1 ∨ n = 2 ∨ n = 3 ∨ n = 4 ∨ n = 5 ∨ n = 6 := by omega
  rcases this with rfl | rfl | rfl | rfl | rfl | rfl | rfl
  · exact asc_pure0
  · exact asc_pure1
  · exact asc_pure2
  · exact asc_pure3
  · exact asc_pure4
  · exact asc_pure5
  · exact asc_pure6
theorem asc_at (n : Nat) (hn : n ≤ 6) (W : World) : Calls Try.prog 64 #[.int .i64 n] W fun e w' => ∃ v, e = .returned v ∧ Kd.R (Kd.int .i64) 2 w' W.heap.size (fun _ => True) v (Ins.ascL n) ∧ Below W.heap.size W w' :=
  impl_ascending.calls 20 n _ W (asc_pure n hn)
theorem isWays_at (a : Int) (W : World) : Calls Try.prog 69 #[.int .i64 a] W fun e w' => e = .returned (.bool (decide (1 ≤ a) && decide (a ≤ 6))) ∧ Drawn0 W w' :=
  impl_isWays.calls a _ W (by unfold impl_isWays.f impl_inRange.f; by_cases h : 1 ≤ a <;> simp [h])
set_option maxHeartbeats 8000000 in
set_option maxRecDepth 100000 in
theorem policyOf_bad (a : Int) (h : ¬ (1 ≤ a ∧ a ≤ 6)) (f1 f2 : Value) (w : World) :
    Calls Try.prog 40 #[.int .i64 a, f1, f2] w fun e w' => e = .returned (.tuple #[.agg #[.slice none 0 0, .slice none 0 0], .bool false]) ∧ Below w.heap.size w w' := by
  have hu25 := Try.underlying25
  have hc := isWays_at a (w.alloc (.cells #[.slice none 0 0, .slice none 0 0] 25))
  rw [show (decide (1 ≤ a) && decide (a ≤ 6)) = false by by_cases h1 : 1 ≤ a <;> by_cases h2 : a ≤ 6 <;> simp_all] at hc
  clear h
  go_enter Try.func40, Try.ntmps40
  go_wp2_with fail
  refine hc.mono ?_
  clear hc
  rintro e w1 ⟨rfl, hd⟩
  have b1 := Drawn0.below hd
  have BK := blk_below (g := w.heap.size) (o := .cells #[.slice none 0 0, .slice none 0 0] 25 (0, 0)) (w := w.alloc (.cells #[.slice none 0 0, .slice none 0 0] 25)) (by show (w.heap.push _)[w.heap.size]? = _; exact Array.getElem?_push_size) b1
  have B1 := Aside0.mk (below_step (below_alloc (Below.refl _ w) (.cells #[.slice none 0 0, .slice none 0 0] 25)) b1)
  have hr0 : w1.cell? ⟨w.heap.size, 0, none⟩ = some (.slice none 0 0) := (blk_cell BK 0).trans rfl
  have hr1 : w1.cell? ⟨w.heap.size, 1, none⟩ = some (.slice none 0 0) := (blk_cell BK 1).trans rfl
  have fr0 := blk_frozen BK 0
  have fr1 := blk_frozen BK 1
  have BKA := Aside0.mk BK
  clear hd b1 BK
  go_wp2
  clear hr0 hr1 fr0 fr1
  have b2 := blk_put (cs := #[.slice none 0 0, .slice none 0 0]) BKA.out 0 (.slice none 0 0) rfl
  have b3 := blk_put (cs := #[.slice none 0 0, .slice none 0 0]) b2 1 (.slice none 0 0) rfl
  first
  | (refine bodyPost_ret (results_ct rfl _ _ w.heap.size 25 #[.slice none 0 0, .slice none 0 0] (0, 0) _ rfl b3 Try.underlying25 rfl (by kernel_rfl)) rfl ?_
     exact ⟨rfl, (B1.out.setCell (p := ⟨w.heap.size, 0, none⟩) (Nat.le_refl _) _).setCell (p := ⟨w.heap.size, 1, none⟩) (Nat.le_refl _) _⟩)
  | (refine bodyPost_ret (results_ct rfl _ _ w.heap.size 25 #[.slice none 0 0, .slice none 0 0] (0, 0) _ rfl BKA.out Try.underlying25 rfl (by kernel_rfl)) rfl ?_
     exact ⟨rfl, B1.out⟩)


/-! ### impl_FifoPolicy: function 37: by hand -/
/-- What FifoPolicy makes. -/
def impl_FifoPolicy.rows (n : Nat) (i : Nat) : List Int := Ins.ascL n
def impl_FifoPolicy.last (n : Nat) : List Int := Ins.movedL n (n - 1) 0
set_option maxHeartbeats 8000000 in
set_option maxRecDepth 100000 in
theorem impl_FifoPolicy.hit (n i : Nat) (hn : n ≤ 6) (hi : i < n) (bw : Nat) (W : World) (hc : W.cell? ⟨bw, 0, none⟩ = some (.int .i64 n)) :
    Calls Try.prog 66 (#[.int .i64 i] ++ #[.pointer (some ⟨bw, 0, none⟩)]) W fun e w' => ∃ v, e = .returned v ∧ Kd.R (Kd.int .i64) 2 w' W.heap.size (fun _ => True) v (impl_FifoPolicy.rows n i) ∧ Below W.heap.size W w' := by
  show Calls Try.prog 66 #[.int .i64 i, .pointer (some ⟨bw, 0, none⟩)] W _
  have hm := asc_at n hn W
  have hb1 : (n : Int) ≤ 6 := by omega
  have hb2 : (1 : Int) ≤ (n : Int) := by omega
  go_enter Try.func66, Try.ntmps66
  go_wp2_with fail
  refine hm.mono ?_
  clear hm
  rintro e w1 ⟨v, rfl, h1, b1⟩
  obtain ⟨A, c, rfl⟩ := Kd.R_slice h1
  have H1 := Aside0.mk h1
  have B1 := Aside0.mk b1
  clear h1 b1
  go_wp2
  go_ret
  exact ⟨_, rfl, H1.out, B1.out⟩
set_option maxHeartbeats 8000000 in
set_option maxRecDepth 100000 in
theorem impl_FifoPolicy.miss (n : Nat) (h1 : 1 ≤ n) (hn : n ≤ 6) (bw : Nat) (W : World) (hc : W.cell? ⟨bw, 0, none⟩ = some (.int .i64 n)) :
    Calls Try.prog 67 #[.pointer (some ⟨bw, 0, none⟩)] W fun e w' => ∃ v, e = .returned v ∧ Kd.R (Kd.int .i64) 2 w' W.heap.size (fun _ => True) v (impl_FifoPolicy.last n) ∧ Below W.heap.size W w' := by
  have hm := Ins.moved_at n (n - 1) 0 (by omega) (by omega) (by omega) W (asc_at n hn)
  rw [show ((n - 1 : Nat) : Int) = (n : Int) - 1 by omega] at hm
  have hb1 : (n : Int) ≤ 6 := by omega
  have hb2 : (1 : Int) ≤ (n : Int) := by omega
  go_enter Try.func67, Try.ntmps67
  go_wp2_with fail
  refine hm.mono ?_
  clear hm
  rintro e w1 ⟨v, rfl, h1, b1⟩
  obtain ⟨A, c, rfl⟩ := Kd.R_slice h1
  have H1 := Aside0.mk h1
  have B1 := Aside0.mk b1
  clear h1 b1
  go_wp2
  go_ret
  exact ⟨_, rfl, H1.out, B1.out⟩
def impl_FifoPolicy.f (a0 : Int) : Option (List (List Int) × List Int × Bool) := if 1 ≤ a0 ∧ a0 ≤ 6 then some ((List.range a0.toNat).map (impl_FifoPolicy.rows a0.toNat), impl_FifoPolicy.last a0.toNat, true) else some ([], [], false)
set_option maxHeartbeats 8000000 in
set_option maxRecDepth 100000 in
theorem impl_FifoPolicy.calls (a0 : Int) (r1 : List (List Int)) (r2 : List Int) (r3 : Bool) (w : World) (h : impl_FifoPolicy.f a0 = some (r1, r2, r3)) :
    Calls Try.prog 37 #[.int .i64 a0] w fun e w' => ∃ v0_ v1_ : Value, e = .returned (.tuple #[.agg #[v0_, v1_], .bool r3]) ∧ Kd.S (Kd.slice 2 (Kd.int .i64)) 23 w' w.heap.size (fun k_ => some k_ ≠ (v1_ : Value).ownBlock) v0_ r1 ∧ Kd.R (Kd.int .i64) 2 w' w.heap.size (fun _ => True) v1_ r2 ∧ Below w.heap.size w w' := by
  have hu25 := Try.underlying25
  unfold impl_FifoPolicy.f at h
  have BK0 : ((w.alloc (.cells #[.int .i64 a0] 2)).alloc (.cells #[.slice none 0 0, .slice none 0 0] 25)).heap[w.heap.size]? = some (.cells #[.int .i64 a0] 2 (0, 0)) := blk_alloc (by show (w.heap.push _)[w.heap.size]? = _; exact Array.getElem?_push_size) _
  have BK1 : ((w.alloc (.cells #[.int .i64 a0] 2)).alloc (.cells #[.slice none 0 0, .slice none 0 0] 25)).heap[w.heap.size + 1]? = some (.cells #[.slice none 0 0, .slice none 0 0] 25 (0, 0)) := by
    have : (w.alloc (.cells #[.int .i64 a0] 2)).heap.size = w.heap.size + 1 := by show (w.heap.push _).size = _; rw [Array.size_push]
    rw [← this]
    show ((w.alloc (.cells #[.int .i64 a0] 2)).heap.push _)[(w.alloc (.cells #[.int .i64 a0] 2)).heap.size]? = _
    exact Array.getElem?_push_size
  have BB : Below w.heap.size w ((w.alloc (.cells #[.int .i64 a0] 2)).alloc (.cells #[.slice none 0 0, .slice none 0 0] 25)) := below_alloc (below_alloc (Below.refl _ _) _) _
  have LL : ((w.alloc (.cells #[.int .i64 a0] 2)).alloc (.cells #[.slice none 0 0, .slice none 0 0] 25)).heap.size = w.heap.size + 2 := by
    show ((w.heap.push _).push _).size = _
    rw [Array.size_push, Array.size_push]
  generalize hw1 : (w.alloc (.cells #[.int .i64 a0] 2)).alloc (.cells #[.slice none 0 0, .slice none 0 0] 25) = w1 at BK0 BK1 BB LL
  have HW1 := Aside0.mk hw1
  clear hw1
  by_cases hw : 1 ≤ a0 ∧ a0 ≤ 6
  · rw [if_pos hw] at h
    injection h with h
    injection h with e1 h
    injection h with e2 e3
    subst e1 e2 e3
    obtain ⟨n, rfl⟩ := Int.eq_ofNat_of_zero_le (show 0 ≤ a0 by omega)
    rw [Int.toNat_natCast]
    have hcell : ∀ W, Kept w1 W (fun k => w1.heap.size ≤ k) → W.cell? ⟨w.heap.size, 0, none⟩ = some (.int .i64 n) := fun W hk =>
      (blk_cell (blk_kept BK0 hk (by omega)) 0).trans rfl
    have hp := Pol.policyOf_at n (by omega) 66 67 #[.pointer (some ⟨w.heap.size, 0, none⟩)] #[.pointer (some ⟨w.heap.size, 0, none⟩)] (enters_of Try.func66 (by kernel_rfl) rfl) (enters_of Try.func67 (by kernel_rfl) rfl)
      w1 w1 (Below.refl _ _) (fun _ => False) (fun _ h => h.elim) (fun _ W => Kept w1 W (fun k => w1.heap.size ≤ k)) (impl_FifoPolicy.rows n) (impl_FifoPolicy.last n)
      (fun i W W' h1 h2 _ => h1.then_ h2 (fun k hk => .inl hk))
      (fun i W hi hI hb hl => (impl_FifoPolicy.hit n i (by omega) hi w.heap.size W (hcell W hI)).mono (fun e w' ⟨v, he, hr, hb2⟩ => ⟨v, he, hr, hI.below hb2, below_step hb hb2, Kept.of_below hb2 _⟩))
      (fun W hI hb hl => (impl_FifoPolicy.miss n (by omega) (by omega) w.heap.size W (hcell W hI)).mono (fun e w' ⟨v, he, hr, hb2⟩ => ⟨v, he, hr, hI.below hb2, below_step hb hb2, Kept.of_below hb2 _⟩))
      (Kept.refl _ _) (fun W => by
        have := isWays_at (n : Int) W
        rwa [show (decide (1 ≤ (n : Int)) && decide ((n : Int) ≤ 6)) = true by rw [decide_eq_true hw.1, decide_eq_true hw.2]; rfl] at this)
    have c0 : w1.cell? ⟨w.heap.size, 0, none⟩ = some (.int .i64 n) := (blk_cell BK0 0).trans rfl
    generalize impl_FifoPolicy.last n = lst at hp ⊢
    have B0 := Aside0.mk BK0
    have B1 := Aside0.mk BK1
    have BBA := Aside0.mk BB
    have LLA := Aside0.mk LL
    clear BK0 BK1 BB LL hcell hw
    rw [← HW1.out] at hp c0
    go_enter Try.func37, Try.ntmps37
    go_wp2_with fail
    refine hp.mono ?_
    clear hp c0
    rintro e w2 ⟨v0, v1, rfl, s2, r2, -, b2, k2⟩
    rw [HW1.out] at s2 r2 b2 k2
    obtain ⟨A0, c0, rfl⟩ := Kd.S_slice s2
    obtain ⟨A1, c1, rfl⟩ := Kd.R_slice r2
    have BK := blk_kept B1.out k2 (fun h => h)
    have hr0 : w2.cell? ⟨w.heap.size + 1, 0, none⟩ = some (.slice none 0 0) := (blk_cell BK 0).trans rfl
    have hr1 : w2.cell? ⟨w.heap.size + 1, 1, none⟩ = some (.slice none 0 0) := (blk_cell BK 1).trans rfl
    have fr0 := blk_frozen BK 0
    have fr1 := blk_frozen BK 1
    have lA : ((List.range n).map (impl_FifoPolicy.rows n)).length = n := by simp
    rw [lA] at s2 ⊢
    have S2 := Aside0.mk s2
    have R2 := Aside0.mk r2
    have K2 := Aside0.mk k2
    have BKA := Aside0.mk BK
    have B2 := Aside0.mk (below_step BBA.out b2)
    clear s2 r2 k2 b2 BK lA
    go_wp2
    clear hr0 hr1 fr0 fr1
    have b3 := blk_put (cs := #[.slice none 0 0, .slice none 0 0]) BKA.out 0 (.slice A0 n c0) rfl
    have b4 := blk_put (cs := #[.slice A0 n c0, .slice none 0 0]) b3 1 (.slice A1 lst.length c1) rfl
    have s3 := Kd.S_far (p := ⟨w.heap.size + 1, 1, none⟩) (Kd.S_far (p := ⟨w.heap.size + 1, 0, none⟩) (Kd.S_types S2.out BKA.out (by decide)) (fun _ hk => hk.2) (.slice A0 n c0)) (fun _ hk => hk.2) (.slice A1 lst.length c1)
    have r3 := Kd.R_far (p := ⟨w.heap.size + 1, 1, none⟩) (Kd.R_far (p := ⟨w.heap.size + 1, 0, none⟩) (Kd.R_types R2.out BKA.out (by decide)) (fun _ hk => hk.2) (.slice A0 n c0)) (fun _ hk => hk.2) (.slice A1 lst.length c1)
    refine bodyPost_ret (results_ct rfl _ _ (w.heap.size + 1) 25 #[.slice A0 n c0, .slice A1 lst.length c1] (0, 0) _ rfl b4 Try.underlying25 rfl (by kernel_rfl)) rfl ?_
    exact ⟨_, _, rfl, Kd.S_lower (Kd.S_mono s3 (fun _ h_ => h_.1.2)) (show w.heap.size ≤ w1.heap.size by have := LLA.out; omega), Kd.R_lower (Kd.R_mono r3 (fun _ _ => trivial)) (show w.heap.size ≤ w1.heap.size by have := LLA.out; omega), (B2.out.setCell (p := ⟨w.heap.size + 1, 0, none⟩) (Nat.le_succ _) _).setCell (p := ⟨w.heap.size + 1, 1, none⟩) (Nat.le_succ _) _⟩
  · rw [if_neg hw] at h
    injection h with h
    injection h with e1 h
    injection h with e2 e3
    subst e1 e2 e3
    have hp := policyOf_bad a0 hw (.func (.func 66) #[] #[.pointer (some ⟨w.heap.size, 0, none⟩)]) (.func (.func 67) #[] #[.pointer (some ⟨w.heap.size, 0, none⟩)]) w1
    have c0 : w1.cell? ⟨w.heap.size, 0, none⟩ = some (.int .i64 a0) := (blk_cell BK0 0).trans rfl
    have B1 := Aside0.mk BK1
    have BBA := Aside0.mk BB
    have LLA := Aside0.mk LL
    clear BK0 BK1 BB LL hw
    rw [← HW1.out] at hp c0
    go_enter Try.func37, Try.ntmps37
    go_wp2_with fail
    refine hp.mono ?_
    clear hp c0
    rintro e w2 ⟨rfl, b2⟩
    rw [HW1.out] at b2
    have BK := blk_below B1.out b2
    have hr0 : w2.cell? ⟨w.heap.size + 1, 0, none⟩ = some (.slice none 0 0) := (blk_cell BK 0).trans rfl
    have hr1 : w2.cell? ⟨w.heap.size + 1, 1, none⟩ = some (.slice none 0 0) := (blk_cell BK 1).trans rfl
    have fr0 := blk_frozen BK 0
    have fr1 := blk_frozen BK 1
    have BKA := Aside0.mk BK
    have B2 := Aside0.mk (below_step BBA.out b2)
    clear b2 BK
    go_wp2
    clear hr0 hr1 fr0 fr1
    have b3 := blk_put (cs := #[.slice none 0 0, .slice none 0 0]) BKA.out 0 (.slice none 0 0) rfl
    have b4 := blk_put (cs := #[.slice none 0 0, .slice none 0 0]) b3 1 (.slice none 0 0) rfl
    refine bodyPost_ret (results_ct rfl _ _ (w.heap.size + 1) 25 #[.slice none 0 0, .slice none 0 0] (0, 0) _ rfl b4 Try.underlying25 rfl (by kernel_rfl)) rfl ?_
    exact ⟨_, _, rfl, Kd.S_nil _ _ _ _ _, Kd.R_nil _ _ _ _ _, (B2.out.setCell (p := ⟨w.heap.size + 1, 0, none⟩) (Nat.le_succ _) _).setCell (p := ⟨w.heap.size + 1, 1, none⟩) (Nat.le_succ _) _⟩


/-! ### laws_FnExactFifoPolicy: function 8: by hand -/
def laws_FnExactFifoPolicy.Good (k : Nat) (a0 : Int) : Prop := ∃ (H : List (List Int)) (M : List Int) (b : Bool) (m1 m2 : Int) (H' : List (List Int)) (M' : List Int),
  spec_FifoPolicy.f k a0 = some (H, M, b) ∧ impl_FifoPolicy.f a0 = some (H, M, b) ∧ laws_eqPolicy.f k H M H M = some true ∧ laws_markInt64SS.l0 k H 1 0 = some (m1, H') ∧ laws_markInt64S.f k M m1 = some (m2, M') ∧ 0 ≤ m2 ∧ laws_heldPolicy.f k H' M' 1 = some m2
open Classical in
noncomputable def laws_FnExactFifoPolicy.f (k : Nat) (a0 : Int) : Option Bool := if laws_FnExactFifoPolicy.Good k a0 then some true else none
set_option maxHeartbeats 8000000 in
set_option maxRecDepth 100000 in
theorem laws_FnExactFifoPolicy.calls (k : Nat) (a0 : Int) (r : Bool) (w : World) (h : laws_FnExactFifoPolicy.f k a0 = some r) :
    Calls Try.prog 8 #[.int .i64 a0] w fun e w' => e = .returned (.bool r) ∧ Below w.heap.size w w' := by
  have hu25 := Try.underlying25
  unfold laws_FnExactFifoPolicy.f at h
  split at h
  case isFalse => cases h
  case isTrue hg =>
  obtain rfl := Option.some.inj h
  clear h
  obtain ⟨H, M, b, m1, m2, H', M', e1, e2, e3, e4, e5, e6, e7⟩ := hg
  have E1 := Aside0.mk e1
  have E2 := Aside0.mk e2
  have E3 := Aside0.mk e3
  have E4 := Aside0.mk e4
  have E5 := Aside0.mk e5
  have E6 := Aside0.mk e6
  have E7 := Aside0.mk e7
  clear e1 e2 e3 e4 e5 e6 e7
  go_enter Try.func8, Try.ntmps8
  go_wp2_with fail
  refine (spec_FifoPolicy.calls k a0 H M b w E1.out).mono ?_
  rintro e w1 ⟨v0, v1, rfl, s1, r1, b1⟩
  obtain ⟨A0, c0, rfl⟩ := Kd.S_slice s1
  obtain ⟨A1, c1, rfl⟩ := Kd.R_slice r1
  have P1 := pol_box s1 r1 (Nat.le_refl _)
  have k0 := blk_new w1 (.cells #[.slice A0 H.length c0, .slice A1 M.length c1] 25)
  have l0 := size_alloc w1 (.cells #[.slice A0 H.length c0, .slice A1 M.length c1] 25)
  have s0 := Kd.S_alloc P1.1 (.cells #[.slice A0 H.length c0, .slice A1 M.length c1] 25)
  have r0 := Kd.R_alloc P1.2 (.cells #[.slice A0 H.length c0, .slice A1 M.length c1] 25)
  have bb := below_alloc b1 (.cells #[.slice A0 H.length c0, .slice A1 M.length c1] 25)
  have L1 := Aside0.mk (Below.size b1)
  clear s1 r1 b1 P1
  go_wp2_with fail
  generalize w1.alloc (.cells #[.slice A0 H.length c0, .slice A1 M.length c1] 25) = W1 at k0 l0 s0 r0 bb ⊢
  have S0 := Aside0.mk s0
  have R0 := Aside0.mk r0
  have K0 := Aside0.mk k0
  have B0 := Aside0.mk bb
  have L2 := Aside0.mk l0
  clear s0 r0 k0 bb l0
  refine (impl_FifoPolicy.calls a0 H M b _ E2.out).mono ?_
  rintro e w2 ⟨v0, v1, rfl, s2, r2, b2⟩
  obtain ⟨Ag0, cg0, rfl⟩ := Kd.S_slice s2
  obtain ⟨Ag1, cg1, rfl⟩ := Kd.R_slice r2
  have P2 := pol_box s2 r2 (Below.size B0.out)
  have bl := Below.size b2
  have nS0 := Kd.S_alloc (Kd.S_below S0.out b2) (.cells #[.slice Ag0 H.length cg0, .slice Ag1 M.length cg1] 25)
  have nR0 := Kd.R_alloc (Kd.R_below R0.out b2) (.cells #[.slice Ag0 H.length cg0, .slice Ag1 M.length cg1] 25)
  have nK0 := blk_alloc (blk_below K0.out b2) (.cells #[.slice Ag0 H.length cg0, .slice Ag1 M.length cg1] 25)
  have nB0 := below_alloc (below_step B0.out b2) (.cells #[.slice Ag0 H.length cg0, .slice Ag1 M.length cg1] 25)
  have k1 := blk_new w2 (.cells #[.slice Ag0 H.length cg0, .slice Ag1 M.length cg1] 25)
  have l1 := size_alloc w2 (.cells #[.slice Ag0 H.length cg0, .slice Ag1 M.length cg1] 25)
  have s1 := Kd.S_alloc P2.1 (.cells #[.slice Ag0 H.length cg0, .slice Ag1 M.length cg1] 25)
  have r1 := Kd.R_alloc P2.2 (.cells #[.slice Ag0 H.length cg0, .slice Ag1 M.length cg1] 25)
  have c00 := (blk_cell nK0 0).trans rfl
  have c01 := (blk_cell nK0 1).trans rfl
  have c10 := (blk_cell k1 0).trans rfl
  have c11 := (blk_cell k1 1).trans rfl
  clear S0 R0 K0 B0 s2 r2 P2 b2
  go_wp2_with fail
  generalize w2.alloc (.cells #[.slice Ag0 H.length cg0, .slice Ag1 M.length cg1] 25) = W2 at nS0 nR0 nK0 nB0 k1 l1 s1 r1 c00 c01 c10 c11 ⊢
  have S0 := Aside0.mk nS0
  have R0 := Aside0.mk nR0
  have K0 := Aside0.mk nK0
  have B0 := Aside0.mk nB0
  have S1 := Aside0.mk s1
  have R1 := Aside0.mk r1
  have K1 := Aside0.mk k1
  have L3 := Aside0.mk bl
  have L4 := Aside0.mk l1
  clear nS0 nR0 nK0 nB0 s1 r1 k1 bl l1 c00 c01 c10 c11
  refine (laws_eqPolicy.calls k _ _ H _ _ M _ _ H _ _ M true _ (Kd.S_reads' S1.out).2.2 (Kd.S_reads' S1.out).2.1 (Kd.R_reads' R1.out).2.2 (Kd.R_reads' R1.out).2.1 (Kd.S_reads' S0.out).2.2 (Kd.S_reads' S0.out).2.1 (Kd.R_reads' R0.out).2.2 (Kd.R_reads' R0.out).2.1 E3.out).mono ?_
  rintro e w3 ⟨rfl, b3⟩
  have nS0 := Aside0.mk (Kd.S_below S0.out b3)
  have nR0 := Aside0.mk (Kd.R_below R0.out b3)
  have nK0 := Aside0.mk (blk_below K0.out b3)
  have nS1 := Aside0.mk (Kd.S_below S1.out b3)
  have nR1 := Aside0.mk (Kd.R_below R1.out b3)
  have nK1 := Aside0.mk (blk_below K1.out b3)
  have nB0 := Aside0.mk (below_step B0.out b3)
  have L5 := Aside0.mk (Below.size b3)
  clear S0 R0 K0 S1 R1 K1 B0 b3
  have c10 := (blk_cell nK1.out 0).trans rfl
  have c11 := (blk_cell nK1.out 1).trans rfl
  go_wp2_with fail
  clear c10 c11
  refine (laws_markPolicy.calls k _ _ _ H M 1 m1 m2 H' M' w _ nB0.out nS1.out nR1.out E4.out E5.out).mono ?_
  rintro e w4 ⟨rfl, s4, r4, b4, k4⟩
  have S0 := Aside0.mk (S_kept nS0.out k4 (fun k_ h1_ h2_ => by have := L1.out; have := L2.out; omega))
  have R0 := Aside0.mk (R_kept nR0.out k4 (fun k_ h1_ h2_ => by have := L1.out; have := L2.out; omega))
  have K0 := Aside0.mk (blk_kept nK0.out k4 (fun h_ => by have := L2.out; omega))
  have K1 := Aside0.mk (blk_kept nK1.out k4 (fun h_ => by omega))
  have S1 := Aside0.mk s4
  have R1 := Aside0.mk r4
  have B0 := Aside0.mk b4
  clear nS0 nR0 nK0 nS1 nR1 nK1 nB0 s4 r4 b4 k4
  have c10 := (blk_cell K1.out 0).trans rfl
  have c11 := (blk_cell K1.out 1).trans rfl
  have d6 : decide (m2 < 0) = false := decide_eq_false (by have := E6.out; omega)
  have lH := (Kd.S_reads' S1.out).1
  have lM := (Kd.R_reads' R1.out).1
  have hc := laws_heldPolicy.calls k _ _ H' _ _ M' 1 m2 _ (Kd.S_reads' S1.out).2.2 (by rw [← lH]; exact (Kd.S_reads' S1.out).2.1) (Kd.R_reads' R1.out).2.2 (by rw [← lM]; exact (Kd.R_reads' R1.out).2.1) E7.out
  rw [← lH, ← lM] at hc
  clear lH lM
  go_wp2_with fail
  refine hc.mono ?_
  clear hc c10 c11
  rintro e w5 ⟨rfl, b5⟩
  have nS0 := Aside0.mk (Kd.S_below S0.out b5)
  have nR0 := Aside0.mk (Kd.R_below R0.out b5)
  have nK0 := Aside0.mk (blk_below K0.out b5)
  have nS1 := Aside0.mk (Kd.S_below S1.out b5)
  have nR1 := Aside0.mk (Kd.R_below R1.out b5)
  have nK1 := Aside0.mk (blk_below K1.out b5)
  have nB0 := Aside0.mk (below_step B0.out b5)
  clear S0 R0 K0 S1 R1 K1 B0 b5
  have S0 := nS0
  have R0 := nR0
  have K0 := nK0
  have S1 := nS1
  have R1 := nR1
  have K1 := nK1
  have B0 := nB0
  clear nS0 nR0 nK0 nS1 nR1 nK1 nB0
  go_wp2_with fail
  refine (impl_FifoPolicy.calls a0 H M b _ E2.out).mono ?_
  rintro e w6 ⟨v0, v1, rfl, s2, r2, b2⟩
  obtain ⟨Ah0, ch0, rfl⟩ := Kd.S_slice s2
  obtain ⟨Ah1, ch1, rfl⟩ := Kd.R_slice r2
  have nS0 := Kd.S_alloc (Kd.S_below S0.out b2) (.cells #[.slice Ah0 H.length ch0, .slice Ah1 M.length ch1] 25)
  have nR0 := Kd.R_alloc (Kd.R_below R0.out b2) (.cells #[.slice Ah0 H.length ch0, .slice Ah1 M.length ch1] 25)
  have nK0 := blk_alloc (blk_below K0.out b2) (.cells #[.slice Ah0 H.length ch0, .slice Ah1 M.length ch1] 25)
  have nS1 := Kd.S_alloc (Kd.S_below S1.out b2) (.cells #[.slice Ah0 H.length ch0, .slice Ah1 M.length ch1] 25)
  have nR1 := Kd.R_alloc (Kd.R_below R1.out b2) (.cells #[.slice Ah0 H.length ch0, .slice Ah1 M.length ch1] 25)
  have nK1 := blk_alloc (blk_below K1.out b2) (.cells #[.slice Ah0 H.length ch0, .slice Ah1 M.length ch1] 25)
  have nB0 := below_alloc (below_step B0.out b2) (.cells #[.slice Ah0 H.length ch0, .slice Ah1 M.length ch1] 25)
  have k2 := blk_new w6 (.cells #[.slice Ah0 H.length ch0, .slice Ah1 M.length ch1] 25)
  have s3 := Kd.S_alloc s2 (.cells #[.slice Ah0 H.length ch0, .slice Ah1 M.length ch1] 25)
  have r3 := Kd.R_alloc r2 (.cells #[.slice Ah0 H.length ch0, .slice Ah1 M.length ch1] 25)
  have c00 := (blk_cell nK0 0).trans rfl
  have c01 := (blk_cell nK0 1).trans rfl
  have c20 := (blk_cell k2 0).trans rfl
  have c21 := (blk_cell k2 1).trans rfl
  clear S0 R0 K0 S1 R1 K1 B0 s2 r2 b2
  go_wp2_with fail
  generalize w6.alloc (.cells #[.slice Ah0 H.length ch0, .slice Ah1 M.length ch1] 25) = W6 at nS0 nR0 nK0 nS1 nR1 nK1 nB0 k2 s3 r3 c00 c01 c20 c21 ⊢
  clear c00 c01 c20 c21 k2 nK0
  refine (laws_eqPolicy.calls k _ _ H _ _ M _ _ H _ _ M true _ (Kd.S_reads' s3).2.2 (Kd.S_reads' s3).2.1 (Kd.R_reads' r3).2.2 (Kd.R_reads' r3).2.1 (Kd.S_reads' nS0).2.2 (Kd.S_reads' nS0).2.1 (Kd.R_reads' nR0).2.2 (Kd.R_reads' nR0).2.1 E3.out).mono ?_
  rintro e w7 ⟨rfl, b7⟩
  have S1 := Aside0.mk (Kd.S_below nS1 b7)
  have R1 := Aside0.mk (Kd.R_below nR1 b7)
  have K1 := Aside0.mk (blk_below nK1 b7)
  have B0 := Aside0.mk (below_step nB0 b7)
  clear nS0 nR0 nS1 nR1 nK1 nB0 s3 r3 b7
  have c10 := (blk_cell K1.out 0).trans rfl
  have c11 := (blk_cell K1.out 1).trans rfl
  have lH := (Kd.S_reads' S1.out).1
  have lM := (Kd.R_reads' R1.out).1
  have hc := laws_heldPolicy.calls k _ _ H' _ _ M' 1 m2 _ (Kd.S_reads' S1.out).2.2 (by rw [← lH]; exact (Kd.S_reads' S1.out).2.1) (Kd.R_reads' R1.out).2.2 (by rw [← lM]; exact (Kd.R_reads' R1.out).2.1) E7.out
  rw [← lH, ← lM] at hc
  clear lH lM
  go_wp2_with fail
  refine hc.mono ?_
  clear hc c10 c11
  rintro e w8 ⟨rfl, b8⟩
  have B8 := Aside0.mk (below_step B0.out b8)
  clear S1 R1 K1 B0 b8
  go_wp2
  go_ret
  exact ⟨rfl, B8.out⟩


end Go.Proofs.Ytigbabolmahlaaa.PFnExactFifoPolicy
