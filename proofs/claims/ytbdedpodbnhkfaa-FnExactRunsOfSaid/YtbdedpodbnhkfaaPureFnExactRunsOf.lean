/- The program's RunsOf returns what the reference's returns, for all lists, in new memory. Conditions: those of the row alone. -/
import Derived.Test.YtbdedpodbnhkfaaPFnExactRunsOfy
namespace Go.Proofs.Ytbdedpodbnhkfaa.Pure
open Go.RowKit Go.Proofs.Ytbdedpodbnhkfaa.PFnExactRunsOf Go.Proofs.YtbdedpodbnhkfaaW.PrintWords Go.Proofs.YtbdedpodbnhkfaaW.PrintLast Go.Proofs.YtbdedpodbnhkfaaW.PrintMore
set_option linter.unusedVariables false
set_option linter.unusedSimpArgs false

theorem wid {x : Int} (h1 : -9223372036854775808 ≤ x) (h2 : x < 9223372036854775808) : wrap64 x = x := by unfold wrap64; omega
theorem i64_bd {x : Int} (h : (Lit.int .i64 x).wf = true) : -9223372036854775808 ≤ x ∧ x ≤ 9223372036854775807 := by
  simp only [Lit.wf, IntKind.min, IntKind.max, IntKind.signed, IntKind.bits, Bool.and_eq_true, decide_eq_true_eq, if_true] at h
  omega
/-- A loop's step, its answer known at once. -/
theorem ev_ret {α : Type} {g : Nat → Option α} {r : α} (h : ∀ k, g (k + 1) = some r) : Ev g r := Ev.step (f := fun _ => some r) h (Ev.now r)
theorem ev_all {α : Type} {g : Nat → Option α} {r : α} (h : ∀ k, g k = some r) : Ev g r := ⟨0, fun k _ => h k⟩

/-- A list whose numbers go up one by one from a on, as far as index i. -/
def Upto (a : Int) (n : Nat) (xs : List Int) (i : Nat) : Prop := xs.length = n ∧ ∀ j, j < i → xs.getD j 0 = a + (j : Int)
theorem upto_set {a : Int} {n i : Nat} {xs : List Int} (h : Upto a n xs i) (hi : i < n) : Upto a n (xs.set i (a + (i : Int))) (i + 1) := by
  refine ⟨by rw [List.length_set]; exact h.1, fun j hj => ?_⟩
  have hl := h.1
  rw [List.getD_eq_getElem?_getD, List.getElem?_set]
  by_cases e : i = j
  · subst e
    rw [if_pos rfl, if_pos (by omega)]
    rfl
  · rw [if_neg e, ← List.getD_eq_getElem?_getD]
    exact h.2 j (by omega)
theorem mark_l (a : Int) (n : Nat) (h1 : 0 ≤ a) (h2 : a ≤ 4611686018427387904) (hn : n ≤ 140737488355328) (d : Nat) : ∀ (i : Nat) (xs : List Int), Upto a n xs i → n - i = d → i ≤ n →
    ∃ ys, Ev (fun k => laws_markInt64S.l0 k xs (a + (i : Int)) (i : Int)) (a + (n : Int), ys) ∧ Upto a n ys n := by
  induction d with
  | zero =>
    intro i xs h hd hi
    have e : i = n := by omega
    subst e
    have hl := h.1
    exact ⟨xs, ev_ret (fun k => by rw [laws_markInt64S.l0, if_neg (by omega)]), h⟩
  | succ d ih =>
    intro i xs h hd hi
    have hl := h.1
    obtain ⟨ys, e, hy⟩ := ih (i + 1) _ (upto_set h (by omega)) (by omega) (by omega)
    refine ⟨ys, Ev.step (fun k => ?_) e, hy⟩
    rw [laws_markInt64S.l0, if_pos (by omega), if_pos (by omega), wid (x := a + (i : Int) + 1) (by omega) (by omega), wid (x := (i : Int) + 1) (by omega) (by omega), Int.toNat_natCast]
    rw [show a + ((i + 1 : Nat) : Int) = a + (i : Int) + 1 by omega, show ((i + 1 : Nat) : Int) = (i : Int) + 1 by omega]
theorem mark_I (a : Int) (xs : List Int) (h1 : 0 ≤ a) (h2 : a ≤ 4611686018427387904) (hn : xs.length ≤ 140737488355328) :
    ∃ ys, Ev (fun k => laws_markInt64S.f k xs a) (a + (xs.length : Int), ys) ∧ Upto a xs.length ys xs.length := by
  obtain ⟨ys, e, hy⟩ := mark_l a xs.length h1 h2 hn xs.length 0 xs ⟨rfl, fun j hj => by omega⟩ (by omega) (by omega)
  exact ⟨ys, by simpa [laws_markInt64S.f] using e, hy⟩

theorem held_l (a : Int) (n : Nat) (ys : List Int) (h1 : 0 ≤ a) (h2 : a ≤ 4611686018427387904) (hn : n ≤ 140737488355328) (h : Upto a n ys n) (d : Nat) : ∀ (i : Nat), n - i = d → i ≤ n →
    Ev (fun k => laws_heldInt64S.l0 k ys (a + (i : Int)) (i : Int)) (a + (n : Int)) := by
  have hl := h.1
  induction d with
  | zero =>
    intro i hd hi
    have e : i = n := by omega
    subst e
    exact ev_ret (fun k => by rw [laws_heldInt64S.l0, if_neg (by omega)])
  | succ d ih =>
    intro i hd hi
    refine Ev.step (fun k => ?_) (ih (i + 1) (by omega) (by omega))
    have hr : rd ys (i : Int) = a + (i : Int) := by unfold rd; rw [Int.toNat_natCast]; exact h.2 i (by omega)
    rw [laws_heldInt64S.l0, if_pos (by omega), if_pos (by omega), if_pos hr, wid (x := a + (i : Int) + 1) (by omega) (by omega), wid (x := (i : Int) + 1) (by omega) (by omega)]
    rw [show a + ((i + 1 : Nat) : Int) = a + (i : Int) + 1 by omega, show ((i + 1 : Nat) : Int) = (i : Int) + 1 by omega]
/-- What is marked is held. -/
theorem mark_held (a : Int) (xs : List Int) (h1 : 0 ≤ a) (h2 : a ≤ 4611686018427387904) (hn : xs.length ≤ 140737488355328) :
    ∃ ys, Ev (fun k => laws_markInt64S.f k xs a) (a + (xs.length : Int), ys) ∧ Ev (fun k => laws_heldInt64S.f k ys a) (a + (xs.length : Int)) := by
  obtain ⟨ys, e, hy⟩ := mark_l a xs.length h1 h2 hn xs.length 0 xs ⟨rfl, fun j hj => by omega⟩ (by omega) (by omega)
  have e2 := held_l a xs.length ys h1 h2 hn hy xs.length 0 (by omega) (by omega)
  refine ⟨ys, ?_, ?_⟩
  · simpa [laws_markInt64S.f] using e
  · simpa [laws_heldInt64S.f] using e2

/-- A list is equal to itself. -/
theorem eqs_l (a : List Int) (ha : a.length ≤ 140737488355328) (d : Nat) : ∀ (i : Int), 0 ≤ i → (a.length : Int) - i = d → Ev (fun k => laws_eqInt64S.l0 k a a i) true := by
  induction d with
  | zero => intro i h0 hd; exact ev_ret (fun k => by rw [laws_eqInt64S.l0, if_neg (by omega)])
  | succ d ih =>
    intro i h0 hd
    refine Ev.step (fun k => ?_) (ih (i + 1) (by omega) (by omega))
    rw [laws_eqInt64S.l0, if_pos (by omega), if_pos h0, if_pos (by omega), if_pos rfl, wid (x := i + 1) (by omega) (by omega)]
theorem eqs (a : List Int) (ha : a.length ≤ 140737488355328) : Ev (fun k => laws_eqInt64S.f k a a) true := by
  unfold laws_eqInt64S.f
  simp only [if_true]
  exact eqs_l a ha a.length 0 (by omega) (by omega)

theorem getD_set (xs : List Int) (i j : Nat) (v : Int) (hi : i < xs.length) : (xs.set i v).getD j 0 = if i = j then v else xs.getD j 0 := by
  rw [List.getD_eq_getElem?_getD, List.getElem?_set]
  by_cases e : i = j
  · subst e; rw [if_pos rfl, if_pos hi, if_pos rfl]; rfl
  · rw [if_neg e, if_neg e, List.getD_eq_getElem?_getD]
theorem ext_getD {xs ys : List Int} (h : xs.length = ys.length) (he : ∀ j, j < xs.length → xs.getD j 0 = ys.getD j 0) : xs = ys := by
  apply List.ext_getElem h
  intro j h1 h2
  have := he j h1
  rwa [List.getD_eq_getElem?_getD, List.getD_eq_getElem?_getD, List.getElem?_eq_getElem h1, List.getElem?_eq_getElem h2] at this
theorem rd_nat (xs : List Int) (i : Nat) : rd xs (i : Int) = xs.getD i 0 := by unfold rd; rw [Int.toNat_natCast]
theorem rd_mem (xs : List Int) (i : Nat) (h : i < xs.length) : rd xs (i : Int) ∈ xs := by
  rw [rd_nat, List.getD_eq_getElem?_getD, List.getElem?_eq_getElem h]
  exact List.getElem_mem _
theorem take_snoc (xs : List Int) (i : Nat) (h : i < xs.length) : xs.take (i + 1) = xs.take i ++ [rd xs (i : Int)] := by
  rw [List.take_succ_eq_append_getElem h, rd_nat, List.getD_eq_getElem?_getD, List.getElem?_eq_getElem h]
  rfl
theorem drop_cons (xs : List Int) (i : Nat) (h : i < xs.length) : xs.drop i = rd xs (i : Int) :: xs.drop (i + 1) := by
  rw [List.drop_eq_getElem_cons h, rd_nat, List.getD_eq_getElem?_getD, List.getElem?_eq_getElem h]
  rfl

theorem toInts_l (l : List Int) (hl : l.length ≤ 140737488355328) (d : Nat) : ∀ (i : Nat) (xs : List Int), xs.length = l.length → (∀ j, j < i → xs.getD j 0 = l.getD j 0) → l.length - i = d → i ≤ l.length →
    Ev (fun k => laws_toInt64S.l0 k l xs (i : Int)) l := by
  induction d with
  | zero =>
    intro i xs hx h hd hi
    have e : xs = l := ext_getD hx (fun j hj => h j (by omega))
    subst e
    exact ev_ret (fun k => by rw [laws_toInt64S.l0, if_neg (by omega)])
  | succ d ih =>
    intro i xs hx h hd hi
    refine Ev.step (fun k => ?_) (ih (i + 1) (xs.set i (rd l (i : Int))) (by rw [List.length_set, hx]) (fun j hj => ?_) (by omega) (by omega))
    · rw [laws_toInt64S.l0, if_pos (by omega), if_pos (by omega), if_pos (by omega), Int.toNat_natCast, wid (x := (i : Int) + 1) (by omega) (by omega), show ((i + 1 : Nat) : Int) = (i : Int) + 1 by omega]
    · rw [getD_set _ _ _ _ (by omega)]
      by_cases e : i = j
      · subst e; rw [if_pos rfl, rd_nat]
      · rw [if_neg e]; exact h j (by omega)
theorem toInts (l : List Int) (hl : l.length ≤ 35184372088832) : Ev (fun k => laws_toInt64S.f k l) l := by
  unfold laws_toInt64S.f
  simp only [if_pos (show (0 : Int) ≤ (l.length : Int) by omega), Int.toNat_natCast, if_pos hl]
  exact toInts_l l (by omega) l.length 0 _ (by rw [List.length_replicate]) (fun j hj => by omega) (by omega) (by omega)

/-! rows of rows: equal to themselves; marked and held -/
theorem ev_and {α β : Type} {g : Nat → Option α} {f : Nat → Option β} {a : α} {b : β} (h : Ev g a) (k : Ev f b) : ∃ K, ∀ n, K ≤ n → g n = some a ∧ f n = some b := by
  obtain ⟨K, h⟩ := h
  obtain ⟨K2, k⟩ := k
  exact ⟨max K K2, fun n hn => ⟨h n (Nat.le_trans (Nat.le_max_left ..) hn), k n (Nat.le_trans (Nat.le_max_right ..) hn)⟩⟩
theorem rdL_app (A : List (List Int)) (x : List Int) (B : List (List Int)) : (A ++ x :: B).getD A.length [] = x := by
  rw [List.getD_eq_getElem?_getD, List.getElem?_append_right (Nat.le_refl _), Nat.sub_self]
  rfl
theorem setL_app (A : List (List Int)) (x y : List Int) (B : List (List Int)) : (A ++ x :: B).set A.length y = A ++ y :: B := by
  rw [List.set_append_right _ _ (Nat.le_refl _), Nat.sub_self]
  rfl
theorem eqsSS_l (X : List (List Int)) (hX : X.length ≤ 1000000000) (hr : ∀ x ∈ X, x.length ≤ 1000000000) : ∀ (B A : List (List Int)), X = A ++ B → Ev (fun k => laws_eqInt64SS.l0 k X X (A.length : Int)) true
  | [], A, e => by
    refine ev_ret (fun k => ?_)
    rw [laws_eqInt64SS.l0, if_neg (by rw [e]; simp)]
  | x :: B, A, e => by
    have hl : X.length = A.length + (B.length + 1) := by rw [e]; simp
    have hx : rd_L1 X (A.length : Int) = x := by unfold rd_L1; rw [Int.toNat_natCast, e]; exact rdL_app A x B
    have ih := eqsSS_l X hX hr B (A ++ [x]) (by rw [e]; simp)
    rw [List.length_append, List.length_singleton] at ih
    refine Ev.step (fun k => ?_) (Ev.bind (f := fun k t => if t = true then laws_eqInt64SS.l0 k X X ((A.length + 1 : Nat) : Int) else some false) (eqs x (by have := hr x (by rw [e]; simp); omega)) (by simpa using ih))
    rw [laws_eqInt64SS.l0, if_pos (by omega), if_pos (by omega), if_pos (by omega), hx, wid (x := (A.length : Int) + 1) (by omega) (by omega), show ((A.length + 1 : Nat) : Int) = (A.length : Int) + 1 by omega]
theorem eqsSS (X : List (List Int)) (hX : X.length ≤ 1000000000) (hr : ∀ x ∈ X, x.length ≤ 1000000000) : Ev (fun k => laws_eqInt64SS.f k X X) true := by
  unfold laws_eqInt64SS.f
  simp only [if_true]
  exact eqsSS_l X hX hr X [] rfl
theorem mark_heldSS_l : ∀ (B : List (List Int)) (A : List (List Int)) (a : Int), (∀ x ∈ B, x.length ≤ 1000000000) → A.length + B.length ≤ 1000000000 → 0 ≤ a → a + 1000000000 * (B.length : Int) ≤ 4000000000000000000 →
    ∃ (m : Int) (ys : List (List Int)), Ev (fun k => laws_markInt64SS.l0 k (A ++ B) a (A.length : Int)) (m, A ++ ys) ∧ Ev (fun k => laws_heldInt64SS.l0 k (A ++ ys) a (A.length : Int)) m ∧ a ≤ m ∧ m ≤ a + 1000000000 * (B.length : Int)
  | [], A, a, _, hl, h0, h1 => by
    refine ⟨a, [], ev_ret (fun k => ?_), ev_ret (fun k => ?_), Int.le_refl _, by simp⟩
    · rw [laws_markInt64SS.l0, if_neg (by simp)]
    · rw [laws_heldInt64SS.l0, if_neg (by simp)]
  | x :: B, A, a, hr, hl, h0, h1 => by
    rw [List.length_cons] at hl h1
    have hx := hr x (List.mem_cons_self ..)
    obtain ⟨zs, e1, e2⟩ := mark_held a x h0 (by omega) (by omega)
    obtain ⟨m, ys, e3, e4, h2, h3⟩ := mark_heldSS_l B (A ++ [zs]) (a + (x.length : Int)) (fun y hy => hr y (List.mem_cons_of_mem _ hy)) (by simp; omega) (by omega) (by omega)
    rw [List.length_append, List.length_singleton, List.append_assoc] at e3 e4
    refine ⟨m, zs :: ys, ?_, ?_, by omega, by rw [List.length_cons]; omega⟩
    · refine Ev.step (fun k => ?_) (Ev.bind (f := fun k t => laws_markInt64SS.l0 k (A ++ t.2 :: B) t.1 ((A.length + 1 : Nat) : Int)) e1 (by simpa using e3))
      rw [laws_markInt64SS.l0, if_pos (by simp; omega), if_pos (by omega), Int.toNat_natCast, rdL_app, wid (x := (A.length : Int) + 1) (by omega) (by omega), show ((A.length + 1 : Nat) : Int) = (A.length : Int) + 1 by omega]
      simp only [setL_app]
    · refine Ev.step (fun k => ?_) (Ev.bind (f := fun k t => if t < 0 then some (-1) else laws_heldInt64SS.l0 k (A ++ zs :: ys) t ((A.length + 1 : Nat) : Int)) e2 (by simp only [if_neg (show ¬ a + (x.length : Int) < 0 by omega)]; simpa using e4))
      rw [laws_heldInt64SS.l0, if_pos (by simp; omega), if_pos (by omega), wid (x := (A.length : Int) + 1) (by omega) (by omega), show ((A.length + 1 : Nat) : Int) = (A.length : Int) + 1 by omega]
      unfold rd_L1
      rw [Int.toNat_natCast, rdL_app]
theorem mark_heldSS (a : Int) (X : List (List Int)) (hX : X.length ≤ 1000000) (hr : ∀ x ∈ X, x.length ≤ 1000000) (h0 : 0 ≤ a) (h1 : a ≤ 1000000000) :
    ∃ (m : Int) (Y : List (List Int)), Ev (fun k => laws_markInt64SS.l0 k X a 0) (m, Y) ∧ Ev (fun k => laws_heldInt64SS.f k Y a) m ∧ a ≤ m ∧ m ≤ a + 1000000000 * (X.length : Int) := by
  obtain ⟨m, Y, e1, e2, h2, h3⟩ := mark_heldSS_l X [] a (fun x hx => by have := hr x hx; omega) (by simp; omega) h0 (by omega)
  exact ⟨m, Y, by simpa using e1, by simpa [laws_heldInt64SS.f] using e2, h2, h3⟩

theorem impl_range (a b c : Int) : impl_inRange.f a b c = some (decide (b ≤ a) && decide (a ≤ c)) := by
  unfold impl_inRange.f
  by_cases h : b ≤ a
  · rw [if_pos h, decide_eq_true h, Bool.true_and]
  · rw [if_neg h, decide_eq_false h, Bool.false_and]

/-! the runs of a list -/
def runsFrom : List (List Int) → Int → Int → List Int → List (List Int)
  | pre, y, c, [] => pre ++ [[y, c]]
  | pre, y, c, x :: t => if x = y then runsFrom pre y (c + 1) t else runsFrom (pre ++ [[y, c]]) x 1 t
def runsOf : List Int → List (List Int)
  | [] => []
  | x :: t => runsFrom [] x 1 t
theorem runsFrom_len : ∀ (t : List Int) (pre : List (List Int)) (y c : Int), (runsFrom pre y c t).length ≤ pre.length + 1 + t.length
  | [], pre, y, c => by simp [runsFrom]
  | x :: t, pre, y, c => by
    rw [runsFrom]
    split
    · have := runsFrom_len t pre y (c + 1); rw [List.length_cons]; omega
    · have := runsFrom_len t (pre ++ [[y, c]]) x 1; simp at this; rw [List.length_cons]; omega
theorem runsFrom_rows : ∀ (t : List Int) (pre : List (List Int)) (y c : Int), (∀ r ∈ pre, r.length = 2) → ∀ r ∈ runsFrom pre y c t, r.length = 2
  | [], pre, y, c, h => by
    intro r hr
    rw [runsFrom] at hr
    rcases List.mem_append.1 hr with hr | hr
    · exact h r hr
    · simp at hr; subst hr; rfl
  | x :: t, pre, y, c, h => by
    rw [runsFrom]
    split
    · exact runsFrom_rows t pre y (c + 1) h
    · exact runsFrom_rows t (pre ++ [[y, c]]) x 1 (fun r hr => by
        rcases List.mem_append.1 hr with hr | hr
        · exact h r hr
        · simp at hr; subst hr; rfl)
theorem runsOf_len (l : List Int) : (runsOf l).length ≤ l.length := by
  cases l with
  | nil => simp [runsOf]
  | cons x t => have := runsFrom_len t [] x 1; simp at this; rw [runsOf, List.length_cons]; omega
theorem runsOf_rows (l : List Int) : ∀ r ∈ runsOf l, r.length = 2 := by
  cases l with
  | nil => simp [runsOf]
  | cons x t => exact runsFrom_rows t [] x 1 (by simp)
theorem last_at (pre : List (List Int)) (z : List Int) : (pre ++ [z]).getD (pre.length) [] = z := rdL_app pre z []
theorem wl1 (n : Nat) (hn : n ≤ 1000000) : wrap64 (((n + 1 : Nat) : Int) - 1) = (n : Int) := by rw [wid (by omega) (by omega)]; omega
theorem impl_runs_l (l : List Int) (hl : l.length ≤ 80) (d : Nat) : ∀ (i : Nat) (pre : List (List Int)) (y c : Int), 0 < i → i ≤ l.length → l.length - i = d → rd l ((i - 1 : Nat) : Int) = y → 1 ≤ c → c ≤ (i : Int) → pre.length + 1 ≤ i →
    Ev (fun k => impl_RunsOf.l0 k l (pre ++ [[y, c]]) l (l.length : Int) (i : Int)) (runsFrom pre y c (l.drop i), true) := by
  induction d with
  | zero =>
    intro i pre y c h0 hi hd hy h1 h2 h3
    rw [List.drop_eq_nil_of_le (by omega), runsFrom]
    exact ev_ret (fun k => by rw [impl_RunsOf.l0, if_neg (by omega)])
  | succ d ih =>
    intro i pre y c h0 hi hd hy h1 h2 h3
    rw [drop_cons l i (by omega), runsFrom]
    by_cases h : rd l (i : Int) = y
    · rw [if_pos h]
      have hx := ih (i + 1) pre y (c + 1) (by omega) (by omega) (by omega) (by rw [Nat.add_sub_cancel]; exact h) (by omega) (by omega) (by omega)
      refine Ev.step (fun k => ?_) hx
      have e4 : rd_L1 (pre ++ [[y, c]]) (pre.length : Int) = [y, c] := by unfold rd_L1; rw [Int.toNat_natCast]; exact last_at _ _
      have e5 : (rd [y, c] 1) = c := rfl
      have e7 : [y, c].set (1 : Int).toNat (c + 1) = [y, c + 1] := rfl
      have f1 : (i : Int) < (l.length : Int) := by omega
      have f2 : (0 : Int) ≤ (i : Int) := by omega
      have f3 : (i : Int) > 0 := by omega
      have f4 : (0 : Int) ≤ ((i - 1 : Nat) : Int) := by omega
      have f5 : ((i - 1 : Nat) : Int) < (l.length : Int) := by omega
      have f6 : (0 : Int) ≤ (pre.length : Int) := by omega
      have f7 : (pre.length : Int) < ((pre ++ [[y, c]]).length : Int) := by simp; omega
      have f8 : (1 : Int) < ([y, c].length : Int) := by show (1 : Int) < 2; decide
      have e3 : wrap64 (((pre ++ [[y, c]]).length : Int) - 1) = (pre.length : Int) := by rw [List.length_append, List.length_singleton]; exact wl1 _ (by omega)
      have e6 : wrap64 (c + 1) = c + 1 := wid (by omega) (by omega)
      have e1 : wrap64 ((i : Int) - 1) = ((i - 1 : Nat) : Int) := by rw [wid (by omega) (by omega)]; omega
      have e2 : wrap64 ((i : Int) + 1) = ((i + 1 : Nat) : Int) := by rw [wid (by omega) (by omega)]; omega
      rw [impl_RunsOf.l0, if_pos f1, if_pos f2, if_pos f1, if_pos f3, e1, if_pos f4, if_pos f5, hy, if_pos h.symm, e3, if_pos f6, if_pos f7, e4, if_pos f8, e5, e6, e7, Int.toNat_natCast, setL_app, e2]
    · rw [if_neg h]
      have hx := ih (i + 1) (pre ++ [[y, c]]) (rd l (i : Int)) 1 (by omega) (by omega) (by omega) (by rw [Nat.add_sub_cancel]) (by omega) (by omega) (by simp; omega)
      refine Ev.step (fun k => ?_) hx
      have f1 : (i : Int) < (l.length : Int) := by omega
      have f2 : (0 : Int) ≤ (i : Int) := by omega
      have f3 : (i : Int) > 0 := by omega
      have f4 : (0 : Int) ≤ ((i - 1 : Nat) : Int) := by omega
      have f5 : ((i - 1 : Nat) : Int) < (l.length : Int) := by omega
      have f6 : (pre ++ [[y, c]]).length < 5864062014805 := by simp; omega
      have e1 : wrap64 ((i : Int) - 1) = ((i - 1 : Nat) : Int) := by rw [wid (by omega) (by omega)]; omega
      have e2 : wrap64 ((i : Int) + 1) = ((i + 1 : Nat) : Int) := by rw [wid (by omega) (by omega)]; omega
      rw [impl_RunsOf.l0, if_pos f1, if_pos f2, if_pos f1, if_pos f3, e1, if_pos f4, if_pos f5, hy, if_neg (fun e => h e.symm), if_pos f6, e2]
theorem impl_runs (l : List Int) (hl : l.length ≤ 80) : Ev (fun k => impl_RunsOf.l0 k l [] l (l.length : Int) 0) (runsOf l, true) := by
  cases l with
  | nil => exact ev_ret (fun k => by rw [impl_RunsOf.l0, if_neg (by simp)]; rfl)
  | cons x t =>
    have hx := impl_runs_l (x :: t) hl t.length 1 [] x 1 (by omega) (by simp) (by simp) rfl (by omega) (by omega) (by simp)
    refine Ev.step (fun k => ?_) hx
    rw [impl_RunsOf.l0, if_pos (by simp), if_pos (by decide), if_pos (by simp), if_neg (by decide), if_pos (by decide), wid (x := 0 + 1) (by omega) (by omega)]
    rfl
theorem spec_runs_l (l : List Int) (hl : l.length ≤ 80) (d : Nat) : ∀ (i : Nat) (pre : List (List Int)) (y c : Int), 0 < i → i ≤ l.length → l.length - i = d → rd l ((i - 1 : Nat) : Int) = y → 1 ≤ c → c ≤ (i : Int) → pre.length + 1 ≤ i →
    Ev (fun k => spec_l01Runs.l0 k l (pre ++ [[y, c]]) (i : Int)) (runsFrom pre y c (l.drop i)) := by
  induction d with
  | zero =>
    intro i pre y c h0 hi hd hy h1 h2 h3
    rw [List.drop_eq_nil_of_le (by omega), runsFrom]
    exact ev_ret (fun k => by rw [spec_l01Runs.l0, if_neg (by omega)])
  | succ d ih =>
    intro i pre y c h0 hi hd hy h1 h2 h3
    rw [drop_cons l i (by omega), runsFrom]
    have f1 : (i : Int) < (l.length : Int) := by omega
    have f2 : (0 : Int) ≤ (i : Int) := by omega
    have f3 : ¬ (i : Int) = 0 := by omega
    have f4 : (0 : Int) ≤ ((i - 1 : Nat) : Int) := by omega
    have f5 : ((i - 1 : Nat) : Int) < (l.length : Int) := by omega
    by_cases h : rd l (i : Int) = y
    · rw [if_pos h]
      have hx := ih (i + 1) pre y (c + 1) (by omega) (by omega) (by omega) (by rw [Nat.add_sub_cancel]; exact h) (by omega) (by omega) (by omega)
      refine Ev.step (fun k => ?_) hx
      have e4 : rd_L1 (pre ++ [[y, c]]) (pre.length : Int) = [y, c] := by unfold rd_L1; rw [Int.toNat_natCast]; exact last_at _ _
      have e5 : (rd [y, c] 1) = c := rfl
      have e7 : [y, c].set (1 : Int).toNat (c + 1) = [y, c + 1] := rfl
      have f6 : (0 : Int) ≤ (pre.length : Int) := by omega
      have f7 : (pre.length : Int) < ((pre ++ [[y, c]]).length : Int) := by simp; omega
      have f8 : (1 : Int) < ([y, c].length : Int) := by show (1 : Int) < 2; decide
      have e3 : wrap64 (((pre ++ [[y, c]]).length : Int) - 1) = (pre.length : Int) := by rw [List.length_append, List.length_singleton]; exact wl1 _ (by omega)
      have e6 : wrap64 (c + 1) = c + 1 := wid (by omega) (by omega)
      have e1 : wrap64 ((i : Int) - 1) = ((i - 1 : Nat) : Int) := by rw [wid (by omega) (by omega)]; omega
      have e2 : wrap64 ((i : Int) + 1) = ((i + 1 : Nat) : Int) := by rw [wid (by omega) (by omega)]; omega
      rw [spec_l01Runs.l0, if_pos f1, if_neg f3, if_pos f2, e1, if_pos f4, if_pos f5, hy, if_pos h, e3, if_pos f6, if_pos f7, e4, if_pos f8, e5, e6, e7, Int.toNat_natCast, setL_app, e2]
    · rw [if_neg h]
      have hx := ih (i + 1) (pre ++ [[y, c]]) (rd l (i : Int)) 1 (by omega) (by omega) (by omega) (by rw [Nat.add_sub_cancel]) (by omega) (by omega) (by simp; omega)
      refine Ev.step (fun k => ?_) hx
      generalize hp : pre ++ [[y, c]] = p at *
      have hpl : p.length = pre.length + 1 := by rw [← hp]; simp
      generalize hz : rd l (i : Int) = z at *
      have e4 : rd_L1 (p ++ [[z, 0]]) (p.length : Int) = [z, 0] := by unfold rd_L1; rw [Int.toNat_natCast]; exact last_at _ _
      have e5 : (rd [z, 0] 1) = 0 := rfl
      have e7 : [z, 0].set (1 : Int).toNat 1 = [z, 1] := rfl
      have f6 : p.length < 5864062014805 := by omega
      have f7 : (0 : Int) ≤ (p.length : Int) := by omega
      have f8 : (p.length : Int) < ((p ++ [[z, 0]]).length : Int) := by simp; omega
      have f9 : (1 : Int) < ([z, 0].length : Int) := by show (1 : Int) < 2; decide
      have e3 : wrap64 (((p ++ [[z, 0]]).length : Int) - 1) = (p.length : Int) := by rw [List.length_append, List.length_singleton]; exact wl1 _ (by omega)
      have e6 : wrap64 (0 + 1) = 1 := wid (by omega) (by omega)
      have e1 : wrap64 ((i : Int) - 1) = ((i - 1 : Nat) : Int) := by rw [wid (by omega) (by omega)]; omega
      have e2 : wrap64 ((i : Int) + 1) = ((i + 1 : Nat) : Int) := by rw [wid (by omega) (by omega)]; omega
      rw [spec_l01Runs.l0, if_pos f1, if_neg f3, if_pos f2, e1, if_pos f4, if_pos f5, hz, hy, if_neg h, if_pos f6, Option.bind_some, e3, if_pos f7, if_pos f8, e4, if_pos f9, e5, e6, e7, Int.toNat_natCast, setL_app, e2]
theorem spec_runs (l : List Int) (hl : l.length ≤ 80) : Ev (fun k => spec_l01Runs.f k l) (runsOf l) := by
  unfold spec_l01Runs.f
  cases l with
  | nil => exact ev_ret (fun k => by rw [spec_l01Runs.l0, if_neg (by simp)]; rfl)
  | cons x t =>
    have hx := spec_runs_l (x :: t) hl t.length 1 [] x 1 (by omega) (by simp) (by simp) rfl (by omega) (by omega) (by simp)
    refine Ev.step (fun k => ?_) hx
    have e3 : wrap64 ((([] ++ [[x, 0]] : List (List Int)).length : Int) - 1) = 0 := by show wrap64 ((1 : Int) - 1) = 0; exact wid (by omega) (by omega)
    have e4 : rd_L1 ([] ++ [[x, 0]]) 0 = [x, 0] := rfl
    have e5 : rd [x, 0] 1 = 0 := rfl
    have e6 : wrap64 (0 + 1) = 1 := wid (by omega) (by omega)
    rw [spec_l01Runs.l0, if_pos (by simp), if_pos rfl, if_pos (by decide), if_pos (by simp), Option.bind_some, show rd (x :: t) 0 = x from rfl, e3, if_pos (by decide), if_pos (by show (0 : Int) < 1; decide), e4, if_pos (by show (1 : Int) < 2; decide), e5, e6]
    rfl
theorem spec_list_l (l : List Int) (hl : l.length ≤ 140737488355328) (d : Nat) : ∀ (i : Nat), i ≤ l.length → l.length - i = d → Ev (fun k => spec_l01List.l0 k l (i : Int)) ((l.drop i).all (fun x => decide (-1000000000 ≤ x) && decide (x ≤ 1000000000)) && decide ((l.length : Int) ≤ 80)) := by
  induction d with
  | zero =>
    intro i hi hd
    rw [List.drop_eq_nil_of_le (by omega)]
    exact ev_ret (fun k => by rw [spec_l01List.l0, if_neg (by omega)]; rfl)
  | succ d ih =>
    intro i hi hd
    have hx := ih (i + 1) (by omega) (by omega)
    have g1 : (i : Int) < (l.length : Int) := by omega
    have g2 : (0 : Int) ≤ (i : Int) := by omega
    have e2 : wrap64 ((i : Int) + 1) = ((i + 1 : Nat) : Int) := by rw [wid (by omega) (by omega)]; omega
    rw [drop_cons l i (by omega), List.all_cons]
    generalize hz : rd l (i : Int) = z
    have hs : spec_l00In.f z (-1000000000) 1000000000 = some (decide (-1000000000 ≤ z) && decide (z ≤ 1000000000)) := by
      unfold spec_l00In.f
      by_cases h : -1000000000 ≤ z
      · rw [if_pos h, decide_eq_true h, Bool.true_and]
      · rw [if_neg h, decide_eq_false h, Bool.false_and]
    refine Ev.step (f := fun k => if (decide (-1000000000 ≤ z) && decide (z ≤ 1000000000)) = true then spec_l01List.l0 k l ((i + 1 : Nat) : Int) else some false) (fun k => ?_) ?_
    · rw [spec_l01List.l0, if_pos g1, if_pos g2, hz, hs, Option.bind_some, e2]
    · cases (decide (-1000000000 ≤ z) && decide (z ≤ 1000000000)) with
      | true => simpa using hx
      | false => simpa using Ev.now false
/-- Is it a list of the chapter? -/
def isL (l : List Int) : Bool := l.all (fun x => decide (-1000000000 ≤ x) && decide (x ≤ 1000000000)) && decide ((l.length : Int) ≤ 80)
theorem spec_list (l : List Int) (hl : l.length ≤ 140737488355328) : Ev (fun k => spec_l01List.f k l) (isL l) := spec_list_l l hl l.length 0 (by omega) (by omega)
theorem impl_list (l : List Int) : impl_isList.f l = some (isL l) := by
  unfold impl_isList.f impl_allIn.f isL
  by_cases h : (l.length : Int) ≤ 80
  · rw [if_pos h, decide_eq_true h, Bool.and_true]; rfl
  · rw [if_neg h, decide_eq_false h, Bool.and_false]

theorem FnExactRunsOf : laws_FnExactRunsOf.Pure := by
  intro l hl
  refine (?_ : ∃ k, laws_FnExactRunsOf.f k l = some true)
  unfold laws_FnExactRunsOf.f
  suffices h : ∃ k, laws_FnExactRunsOf.Good k l by
    obtain ⟨k, h⟩ := h
    exact ⟨k, if_pos h⟩
  by_cases hb : 1048576 < l.length
  · exact ⟨0, .inl hb⟩
  · have hl' : l.length ≤ 1048576 := by omega
    obtain ⟨RR, b, hs, hi, h1, h2⟩ : ∃ (RR : List (List Int)) (b : Bool), Ev (fun k => spec_RunsOf.f k l) (RR, b) ∧ Ev (fun k => impl_RunsOf.f k l) (RR, b) ∧ RR.length ≤ 80 ∧ ∀ r ∈ RR, r.length = 2 := by
      cases hg : isL l with
      | true =>
        have h80 : l.length ≤ 80 := by unfold isL at hg; rw [Bool.and_eq_true] at hg; have := of_decide_eq_true hg.2; omega
        refine ⟨runsOf l, true, ?_, ?_, by have := runsOf_len l; omega, runsOf_rows l⟩
        · unfold spec_RunsOf.f
          refine Ev.bind (spec_list l (by omega)) ?_
          simp only [hg, if_true]
          exact Ev.bind (spec_runs l h80) (Ev.now _)
        · unfold impl_RunsOf.f
          simp only [impl_list, Option.bind_some, hg, if_true]
          exact impl_runs l h80
      | false =>
        refine ⟨[], false, ?_, ?_, by simp, by simp⟩
        · unfold spec_RunsOf.f
          refine Ev.bind (spec_list l (by omega)) ?_
          simp only [hg, Bool.false_eq_true, if_false]
          exact Ev.now _
        · unfold impl_RunsOf.f
          simp only [impl_list, Option.bind_some, hg, Bool.false_eq_true, if_false]
          exact Ev.now _
    have et := toInts l (by omega)
    obtain ⟨m, Y, e1, e2, h3, h4⟩ := mark_heldSS 1 RR (by omega) (fun r hr => by have := h2 r hr; omega) (by omega) (by omega)
    obtain ⟨ys, e3, -⟩ := mark_held 1 l (by omega) (by omega) (by omega)
    have e4 := eqsSS RR (by omega) (fun r hr => by have := h2 r hr; omega)
    have e5 := eqs l (by omega)
    obtain ⟨K, hK⟩ := ev_and et hs
    obtain ⟨K2, hK2⟩ := ev_and hi e1
    obtain ⟨K3, hK3⟩ := ev_and e2 e3
    obtain ⟨K4, hK4⟩ := ev_and e4 e5
    refine ⟨K + K2 + K3 + K4, .inr ⟨hl', RR, b, m, Y, _, ys, (hK _ (by omega)).1, (hK _ (by omega)).2, (hK2 _ (by omega)).1, (hK4 _ (by omega)).1, (hK4 _ (by omega)).2, (hK3 _ (by omega)).2, by omega, (hK2 _ (by omega)).2, by omega, (hK3 _ (by omega)).1⟩⟩

end Go.Proofs.Ytbdedpodbnhkfaa.Pure
