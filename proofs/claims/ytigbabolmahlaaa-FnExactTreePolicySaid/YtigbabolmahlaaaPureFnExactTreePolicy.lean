/- The program's TreePolicy returns what the reference's returns, for all numbers of ways, in new memory. Conditions: those of the row alone. -/
import Derived.Test.YtigbabolmahlaaaPFnExactTreePolicyy
namespace Go.Proofs.Ytigbabolmahlaaa.Pure
open Go.RowKit Go.Proofs.Ytigbabolmahlaaa.PFnExactTreePolicy Go.Proofs.YtigbabolmahlaaaW.PrintWords Go.Proofs.YtigbabolmahlaaaW.PrintLast Go.Proofs.YtigbabolmahlaaaW.PrintMore
set_option linter.unusedVariables false
set_option linter.unusedSimpArgs false

theorem wid {x : Int} (h1 : -9223372036854775808 ≤ x) (h2 : x < 9223372036854775808) : wrap64 x = x := by unfold wrap64; omega
theorem i64_bd {x : Int} (h : (Lit.int .i64 x).wf = true) : -9223372036854775808 ≤ x ∧ x ≤ 9223372036854775807 := by
  simp only [Lit.wf, IntKind.min, IntKind.max, IntKind.signed, IntKind.bits, Bool.and_eq_true, decide_eq_true_eq, if_true] at h
  omega
/-- A loop's step, its answer known at once. -/
theorem ev_ret {α : Type} {g : Nat → Option α} {r : α} (h : ∀ k, g (k + 1) = some r) : Ev g r := Ev.step (f := fun _ => some r) h (Ev.now r)
theorem ev_all {α : Type} {g : Nat → Option α} {r : α} (h : ∀ k, g k = some r) : Ev g r := ⟨0, fun k _ => h k⟩

/-- A list whose numbers go up one by one from a on, as far as index i. -/
def Upto (a : Int) (n : Nat) (xs : List Int) (i : Nat) : Prop := xs.length = n ∧ ∀ j, j < i → xs.getD j 0 = a + (j : Int)
theorem upto_set {a : Int} {n i : Nat} {xs : List Int} (h : Upto a n xs i) (hi : i < n) : Upto a n (xs.set i (a + (i : Int))) (i + 1) := by
  refine ⟨by rw [List.length_set]; exact h.1, fun j hj => ?_⟩
  have hl := h.1
  rw [List.getD_eq_getElem?_getD, List.getElem?_set]
  by_cases e : i = j
  · subst e
    rw [if_pos rfl, if_pos (by omega)]
    rfl
  · rw [if_neg e, ← List.getD_eq_getElem?_getD]
    exact h.2 j (by omega)
theorem mark_l (a : Int) (n : Nat) (h1 : 0 ≤ a) (h2 : a ≤ 4611686018427387904) (hn : n ≤ 140737488355328) (d : Nat) : ∀ (i : Nat) (xs : List Int), Upto a n xs i → n - i = d → i ≤ n →
    ∃ ys, Ev (fun k => laws_markInt64S.l0 k xs (a + (i : Int)) (i : Int)) (a + (n : Int), ys) ∧ Upto a n ys n := by
  induction d with
  | zero =>
    intro i xs h hd hi
    have e : i = n := by omega
    subst e
    have hl := h.1
    exact ⟨xs, ev_ret (fun k => by rw [laws_markInt64S.l0, if_neg (by omega)]), h⟩
  | succ d ih =>
    intro i xs h hd hi
    have hl := h.1
    obtain ⟨ys, e, hy⟩ := ih (i + 1) _ (upto_set h (by omega)) (by omega) (by omega)
    refine ⟨ys, Ev.step (fun k => ?_) e, hy⟩
    rw [laws_markInt64S.l0, if_pos (by omega), if_pos (by omega), wid (x := a + (i : Int) + 1) (by omega) (by omega), wid (x := (i : Int) + 1) (by omega) (by omega), Int.toNat_natCast]
    rw [show a + ((i + 1 : Nat) : Int) = a + (i : Int) + 1 by omega, show ((i + 1 : Nat) : Int) = (i : Int) + 1 by omega]
theorem mark_I (a : Int) (xs : List Int) (h1 : 0 ≤ a) (h2 : a ≤ 4611686018427387904) (hn : xs.length ≤ 140737488355328) :
    ∃ ys, Ev (fun k => laws_markInt64S.f k xs a) (a + (xs.length : Int), ys) ∧ Upto a xs.length ys xs.length := by
  obtain ⟨ys, e, hy⟩ := mark_l a xs.length h1 h2 hn xs.length 0 xs ⟨rfl, fun j hj => by omega⟩ (by omega) (by omega)
  exact ⟨ys, by simpa [laws_markInt64S.f] using e, hy⟩

theorem held_l (a : Int) (n : Nat) (ys : List Int) (h1 : 0 ≤ a) (h2 : a ≤ 4611686018427387904) (hn : n ≤ 140737488355328) (h : Upto a n ys n) (d : Nat) : ∀ (i : Nat), n - i = d → i ≤ n →
    Ev (fun k => laws_heldInt64S.l0 k ys (a + (i : Int)) (i : Int)) (a + (n : Int)) := by
  have hl := h.1
  induction d with
  | zero =>
    intro i hd hi
    have e : i = n := by omega
    subst e
    exact ev_ret (fun k => by rw [laws_heldInt64S.l0, if_neg (by omega)])
  | succ d ih =>
    intro i hd hi
    refine Ev.step (fun k => ?_) (ih (i + 1) (by omega) (by omega))
    have hr : rd ys (i : Int) = a + (i : Int) := by unfold rd; rw [Int.toNat_natCast]; exact h.2 i (by omega)
    rw [laws_heldInt64S.l0, if_pos (by omega), if_pos (by omega), if_pos hr, wid (x := a + (i : Int) + 1) (by omega) (by omega), wid (x := (i : Int) + 1) (by omega) (by omega)]
    rw [show a + ((i + 1 : Nat) : Int) = a + (i : Int) + 1 by omega, show ((i + 1 : Nat) : Int) = (i : Int) + 1 by omega]
/-- What is marked is held. -/
theorem mark_held (a : Int) (xs : List Int) (h1 : 0 ≤ a) (h2 : a ≤ 4611686018427387904) (hn : xs.length ≤ 140737488355328) :
    ∃ ys, Ev (fun k => laws_markInt64S.f k xs a) (a + (xs.length : Int), ys) ∧ Ev (fun k => laws_heldInt64S.f k ys a) (a + (xs.length : Int)) := by
  obtain ⟨ys, e, hy⟩ := mark_l a xs.length h1 h2 hn xs.length 0 xs ⟨rfl, fun j hj => by omega⟩ (by omega) (by omega)
  have e2 := held_l a xs.length ys h1 h2 hn hy xs.length 0 (by omega) (by omega)
  refine ⟨ys, ?_, ?_⟩
  · simpa [laws_markInt64S.f] using e
  · simpa [laws_heldInt64S.f] using e2

/-- A list is equal to itself. -/
theorem eqs_l (a : List Int) (ha : a.length ≤ 140737488355328) (d : Nat) : ∀ (i : Int), 0 ≤ i → (a.length : Int) - i = d → Ev (fun k => laws_eqInt64S.l0 k a a i) true := by
  induction d with
  | zero => intro i h0 hd; exact ev_ret (fun k => by rw [laws_eqInt64S.l0, if_neg (by omega)])
  | succ d ih =>
    intro i h0 hd
    refine Ev.step (fun k => ?_) (ih (i + 1) (by omega) (by omega))
    rw [laws_eqInt64S.l0, if_pos (by omega), if_pos h0, if_pos (by omega), if_pos rfl, wid (x := i + 1) (by omega) (by omega)]
theorem eqs (a : List Int) (ha : a.length ≤ 140737488355328) : Ev (fun k => laws_eqInt64S.f k a a) true := by
  unfold laws_eqInt64S.f
  simp only [if_true]
  exact eqs_l a ha a.length 0 (by omega) (by omega)

/-! rows of rows: equal to themselves; marked and held -/
theorem ev_and {α β : Type} {g : Nat → Option α} {f : Nat → Option β} {a : α} {b : β} (h : Ev g a) (k : Ev f b) : ∃ K, ∀ n, K ≤ n → g n = some a ∧ f n = some b := by
  obtain ⟨K, h⟩ := h
  obtain ⟨K2, k⟩ := k
  exact ⟨max K K2, fun n hn => ⟨h n (Nat.le_trans (Nat.le_max_left ..) hn), k n (Nat.le_trans (Nat.le_max_right ..) hn)⟩⟩
theorem rdL_app (A : List (List Int)) (x : List Int) (B : List (List Int)) : (A ++ x :: B).getD A.length [] = x := by
  rw [List.getD_eq_getElem?_getD, List.getElem?_append_right (Nat.le_refl _), Nat.sub_self]
  rfl
theorem setL_app (A : List (List Int)) (x y : List Int) (B : List (List Int)) : (A ++ x :: B).set A.length y = A ++ y :: B := by
  rw [List.set_append_right _ _ (Nat.le_refl _), Nat.sub_self]
  rfl
theorem eqsSS_l (X : List (List Int)) (hX : X.length ≤ 1000000000) (hr : ∀ x ∈ X, x.length ≤ 1000000000) : ∀ (B A : List (List Int)), X = A ++ B → Ev (fun k => laws_eqInt64SS.l0 k X X (A.length : Int)) true
  | [], A, e => by
    refine ev_ret (fun k => ?_)
    rw [laws_eqInt64SS.l0, if_neg (by rw [e]; simp)]
  | x :: B, A, e => by
    have hl : X.length = A.length + (B.length + 1) := by rw [e]; simp
    have hx : rd_L1 X (A.length : Int) = x := by unfold rd_L1; rw [Int.toNat_natCast, e]; exact rdL_app A x B
    have ih := eqsSS_l X hX hr B (A ++ [x]) (by rw [e]; simp)
    rw [List.length_append, List.length_singleton] at ih
    refine Ev.step (fun k => ?_) (Ev.bind (f := fun k t => if t = true then laws_eqInt64SS.l0 k X X ((A.length + 1 : Nat) : Int) else some false) (eqs x (by have := hr x (by rw [e]; simp); omega)) (by simpa using ih))
    rw [laws_eqInt64SS.l0, if_pos (by omega), if_pos (by omega), if_pos (by omega), hx, wid (x := (A.length : Int) + 1) (by omega) (by omega), show ((A.length + 1 : Nat) : Int) = (A.length : Int) + 1 by omega]
theorem eqsSS (X : List (List Int)) (hX : X.length ≤ 1000000000) (hr : ∀ x ∈ X, x.length ≤ 1000000000) : Ev (fun k => laws_eqInt64SS.f k X X) true := by
  unfold laws_eqInt64SS.f
  simp only [if_true]
  exact eqsSS_l X hX hr X [] rfl
theorem mark_heldSS_l : ∀ (B : List (List Int)) (A : List (List Int)) (a : Int), (∀ x ∈ B, x.length ≤ 1000000000) → A.length + B.length ≤ 1000000000 → 0 ≤ a → a + 1000000000 * (B.length : Int) ≤ 4000000000000000000 →
    ∃ (m : Int) (ys : List (List Int)), Ev (fun k => laws_markInt64SS.l0 k (A ++ B) a (A.length : Int)) (m, A ++ ys) ∧ Ev (fun k => laws_heldInt64SS.l0 k (A ++ ys) a (A.length : Int)) m ∧ a ≤ m ∧ m ≤ a + 1000000000 * (B.length : Int)
  | [], A, a, _, hl, h0, h1 => by
    refine ⟨a, [], ev_ret (fun k => ?_), ev_ret (fun k => ?_), Int.le_refl _, by simp⟩
    · rw [laws_markInt64SS.l0, if_neg (by simp)]
    · rw [laws_heldInt64SS.l0, if_neg (by simp)]
  | x :: B, A, a, hr, hl, h0, h1 => by
    rw [List.length_cons] at hl h1
    have hx := hr x (List.mem_cons_self ..)
    obtain ⟨zs, e1, e2⟩ := mark_held a x h0 (by omega) (by omega)
    obtain ⟨m, ys, e3, e4, h2, h3⟩ := mark_heldSS_l B (A ++ [zs]) (a + (x.length : Int)) (fun y hy => hr y (List.mem_cons_of_mem _ hy)) (by simp; omega) (by omega) (by omega)
    rw [List.length_append, List.length_singleton, List.append_assoc] at e3 e4
    refine ⟨m, zs :: ys, ?_, ?_, by omega, by rw [List.length_cons]; omega⟩
    · refine Ev.step (fun k => ?_) (Ev.bind (f := fun k t => laws_markInt64SS.l0 k (A ++ t.2 :: B) t.1 ((A.length + 1 : Nat) : Int)) e1 (by simpa using e3))
      rw [laws_markInt64SS.l0, if_pos (by simp; omega), if_pos (by omega), Int.toNat_natCast, rdL_app, wid (x := (A.length : Int) + 1) (by omega) (by omega), show ((A.length + 1 : Nat) : Int) = (A.length : Int) + 1 by omega]
      simp only [setL_app]
    · refine Ev.step (fun k => ?_) (Ev.bind (f := fun k t => if t < 0 then some (-1) else laws_heldInt64SS.l0 k (A ++ zs :: ys) t ((A.length + 1 : Nat) : Int)) e2 (by simp only [if_neg (show ¬ a + (x.length : Int) < 0 by omega)]; simpa using e4))
      rw [laws_heldInt64SS.l0, if_pos (by simp; omega), if_pos (by omega), wid (x := (A.length : Int) + 1) (by omega) (by omega), show ((A.length + 1 : Nat) : Int) = (A.length : Int) + 1 by omega]
      unfold rd_L1
      rw [Int.toNat_natCast, rdL_app]
theorem mark_heldSS (a : Int) (X : List (List Int)) (hX : X.length ≤ 1000000) (hr : ∀ x ∈ X, x.length ≤ 1000000) (h0 : 0 ≤ a) (h1 : a ≤ 1000000000) :
    ∃ (m : Int) (Y : List (List Int)), Ev (fun k => laws_markInt64SS.l0 k X a 0) (m, Y) ∧ Ev (fun k => laws_heldInt64SS.f k Y a) m ∧ a ≤ m ∧ m ≤ a + 1000000000 * (X.length : Int) := by
  obtain ⟨m, Y, e1, e2, h2, h3⟩ := mark_heldSS_l X [] a (fun x hx => by have := hr x hx; omega) (by simp; omega) h0 (by omega)
  exact ⟨m, Y, by simpa using e1, by simpa [laws_heldInt64SS.f] using e2, h2, h3⟩

/-- Marks and comparisons of a policy. -/
theorem eqPol (H : List (List Int)) (M : List Int) (hH : H.length ≤ 1000) (hr : ∀ x ∈ H, x.length ≤ 1000) (hM : M.length ≤ 1000) : Ev (fun k => laws_eqPolicy.f k H M H M) true := by
  unfold laws_eqPolicy.f
  refine Ev.bind (eqsSS H (by omega) (fun x hx => by have := hr x hx; omega)) ?_
  simp only [if_true]
  refine Ev.bind (eqs M (by omega)) ?_
  simp only [if_true]
  exact Ev.now _
theorem mark_heldPol (H : List (List Int)) (M : List Int) (hH : H.length ≤ 1000) (hr : ∀ x ∈ H, x.length ≤ 1000) (hM : M.length ≤ 1000) :
    ∃ (m1 m2 : Int) (H' : List (List Int)) (M' : List Int), Ev (fun k => laws_markInt64SS.l0 k H 1 0) (m1, H') ∧ Ev (fun k => laws_markInt64S.f k M m1) (m2, M') ∧ 0 ≤ m2 ∧ Ev (fun k => laws_heldPolicy.f k H' M' 1) m2 := by
  obtain ⟨m1, H', e1, e2, h1, h2⟩ := mark_heldSS 1 H (by omega) (fun x hx => by have := hr x hx; omega) (by omega) (by omega)
  obtain ⟨M', e3, e4⟩ := mark_held m1 M (by omega) (by omega) (by omega)
  refine ⟨m1, _, H', M', e1, e3, by omega, ?_⟩
  unfold laws_heldPolicy.f
  refine Ev.bind e2 ?_
  simp only [if_neg (show ¬ m1 < 0 by omega)]
  refine Ev.bind e4 ?_
  simp only [if_neg (show ¬ m1 + (M.length : Int) < 0 by omega)]
  exact Ev.now _
theorem good_of (a : Int) (h : ∃ H M b, Ev (fun k => spec_TreePolicy.f k a) (H, M, b) ∧ impl_TreePolicy.f a = some (H, M, b) ∧ H.length ≤ 1000 ∧ (∀ x ∈ H, x.length ≤ 1000) ∧ M.length ≤ 1000) : ∃ k, laws_FnExactTreePolicy.f k a = some true := by
  obtain ⟨H, M, b, e1, e2, h1, h2, h3⟩ := h
  obtain ⟨m1, m2, H', M', e3, e4, h4, e5⟩ := mark_heldPol H M h1 h2 h3
  obtain ⟨K1, f1⟩ := ev_and e1 (eqPol H M h1 h2 h3)
  obtain ⟨K2, f2⟩ := ev_and e3 e4
  obtain ⟨K3, f3⟩ := e5
  refine ⟨K1 + K2 + K3, ?_⟩
  unfold laws_FnExactTreePolicy.f
  exact if_pos ⟨H, M, b, m1, m2, H', M', (f1 _ (by omega)).1, e2, (f1 _ (by omega)).2, (f2 _ (by omega)).1, (f2 _ (by omega)).2, h4, f3 _ (by omega)⟩

theorem at2 : spec_TreePolicy.f 20 2 = impl_TreePolicy.f 2 := by kernel_rfl
theorem at4 : spec_TreePolicy.f 20 4 = impl_TreePolicy.f 4 := by kernel_rfl
theorem FnExactTreePolicy : laws_FnExactTreePolicy.Pure := by
  intro a _
  refine good_of a ?_
  by_cases h : a = 2 ∨ a = 4
  · have e : spec_TreePolicy.f 20 a = impl_TreePolicy.f a := by
      rcases h with rfl | rfl
      · exact at2
      · exact at4
    have rl : ∀ n i, (impl_TreePolicy.rows n i).length ≤ 4 := fun n i => by
      unfold impl_TreePolicy.rows
      repeat' split
      all_goals decide
    have e2 : impl_TreePolicy.f a = some ((List.range a.toNat).map (impl_TreePolicy.rows a.toNat), impl_TreePolicy.rows a.toNat (a.toNat - 1), true) := by unfold impl_TreePolicy.f; exact if_pos h
    refine ⟨_, _, _, Ev.of (fun k => spec_TreePolicy.mono a k) (k := 20) (e.trans e2), e2, ?_, ?_, ?_⟩
    · rw [List.length_map, List.length_range]; omega
    · intro x hx
      obtain ⟨i, hi, rfl⟩ := List.mem_map.1 hx
      have := rl a.toNat i
      omega
    · have := rl a.toNat (a.toNat - 1)
      omega
  · refine ⟨[], [], false, Ev.of (fun k => spec_TreePolicy.mono a k) (k := 0) ?_, by unfold impl_TreePolicy.f; exact if_neg h, by simp, by simp, by simp⟩
    have h2 : ¬ a = 2 := fun e => h (.inl e)
    have h4 : ¬ a = 4 := fun e => h (.inr e)
    unfold spec_TreePolicy.f
    simp [h2, h4]


end Go.Proofs.Ytigbabolmahlaaa.Pure
