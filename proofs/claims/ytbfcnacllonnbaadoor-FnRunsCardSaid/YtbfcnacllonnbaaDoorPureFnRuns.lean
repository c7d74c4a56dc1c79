/- A list is made of its runs and read from its text, and a changed byte of its text changes the check letters. Conditions: those of the card alone. -/
import Derived.Test.YtbfcnacllonnbaaDoorPFnRunsy
namespace Go.Proofs.YtbfcnacllonnbaaDoor.Pure
open Go.RowKit Go.Proofs.YtbfcnacllonnbaaDoor.PFnRuns Go.Proofs.YtbfcnacllonnbaaDoorW.PrintWords Go.Proofs.YtbfcnacllonnbaaDoorW.PrintLast Go.Proofs.YtbfcnacllonnbaaDoorW.PrintMore
set_option linter.unusedVariables false
set_option linter.unusedSimpArgs false

theorem wid {x : Int} (h1 : -9223372036854775808 ≤ x) (h2 : x < 9223372036854775808) : wrap64 x = x := by unfold wrap64; omega
theorem i64_bd {x : Int} (h : (Lit.int .i64 x).wf = true) : -9223372036854775808 ≤ x ∧ x ≤ 9223372036854775807 := by
  simp only [Lit.wf, IntKind.min, IntKind.max, IntKind.signed, IntKind.bits, Bool.and_eq_true, decide_eq_true_eq, if_true] at h
  omega
/-- A loop's step, its answer known at once. -/
theorem ev_ret {α : Type} {g : Nat → Option α} {r : α} (h : ∀ k, g (k + 1) = some r) : Ev g r := Ev.step (f := fun _ => some r) h (Ev.now r)
theorem ev_all {α : Type} {g : Nat → Option α} {r : α} (h : ∀ k, g k = some r) : Ev g r := ⟨0, fun k _ => h k⟩

theorem getD_set (xs : List Int) (i j : Nat) (v : Int) (hi : i < xs.length) : (xs.set i v).getD j 0 = if i = j then v else xs.getD j 0 := by
  rw [List.getD_eq_getElem?_getD, List.getElem?_set]
  by_cases e : i = j
  · subst e; rw [if_pos rfl, if_pos hi, if_pos rfl]; rfl
  · rw [if_neg e, if_neg e, List.getD_eq_getElem?_getD]
theorem ext_getD {xs ys : List Int} (h : xs.length = ys.length) (he : ∀ j, j < xs.length → xs.getD j 0 = ys.getD j 0) : xs = ys := by
  apply List.ext_getElem h
  intro j h1 h2
  have := he j h1
  rwa [List.getD_eq_getElem?_getD, List.getD_eq_getElem?_getD, List.getElem?_eq_getElem h1, List.getElem?_eq_getElem h2] at this
theorem rd_nat (xs : List Int) (i : Nat) : rd xs (i : Int) = xs.getD i 0 := by unfold rd; rw [Int.toNat_natCast]
theorem rd_mem (xs : List Int) (i : Nat) (h : i < xs.length) : rd xs (i : Int) ∈ xs := by
  rw [rd_nat, List.getD_eq_getElem?_getD, List.getElem?_eq_getElem h]
  exact List.getElem_mem _
theorem take_snoc (xs : List Int) (i : Nat) (h : i < xs.length) : xs.take (i + 1) = xs.take i ++ [rd xs (i : Int)] := by
  rw [List.take_succ_eq_append_getElem h, rd_nat, List.getD_eq_getElem?_getD, List.getElem?_eq_getElem h]
  rfl
theorem drop_cons (xs : List Int) (i : Nat) (h : i < xs.length) : xs.drop i = rd xs (i : Int) :: xs.drop (i + 1) := by
  rw [List.drop_eq_getElem_cons h, rd_nat, List.getD_eq_getElem?_getD, List.getElem?_eq_getElem h]
  rfl

theorem impl_range (a b c : Int) : impl_inRange.f a b c = some (decide (b ≤ a) && decide (a ≤ c)) := by
  unfold impl_inRange.f
  by_cases h : b ≤ a
  · rw [if_pos h, decide_eq_true h, Bool.true_and]
  · rw [if_neg h, decide_eq_false h, Bool.false_and]

def isL (l : List Int) : Bool := l.all (fun x => decide (-1000000000 ≤ x) && decide (x ≤ 1000000000)) && decide ((l.length : Int) ≤ 80)
theorem impl_list (l : List Int) : impl_isList.f l = some (isL l) := by
  unfold impl_isList.f impl_allIn.f isL
  by_cases h : (l.length : Int) ≤ 80
  · rw [if_pos h, decide_eq_true h, Bool.and_true]; rfl
  · rw [if_neg h, decide_eq_false h, Bool.and_false]

theorem rdL_app (A : List (List Int)) (x : List Int) (B : List (List Int)) : (A ++ x :: B).getD A.length [] = x := by
  rw [List.getD_eq_getElem?_getD, List.getElem?_append_right (Nat.le_refl _), Nat.sub_self]
  rfl
theorem setL_app (A : List (List Int)) (x y : List Int) (B : List (List Int)) : (A ++ x :: B).set A.length y = A ++ y :: B := by
  rw [List.set_append_right _ _ (Nat.le_refl _), Nat.sub_self]
  rfl
/-! the runs of a list -/
def runsFrom : List (List Int) → Int → Int → List Int → List (List Int)
  | pre, y, c, [] => pre ++ [[y, c]]
  | pre, y, c, x :: t => if x = y then runsFrom pre y (c + 1) t else runsFrom (pre ++ [[y, c]]) x 1 t
def runsOf : List Int → List (List Int)
  | [] => []
  | x :: t => runsFrom [] x 1 t
theorem runsFrom_len : ∀ (t : List Int) (pre : List (List Int)) (y c : Int), (runsFrom pre y c t).length ≤ pre.length + 1 + t.length
  | [], pre, y, c => by simp [runsFrom]
  | x :: t, pre, y, c => by
    rw [runsFrom]
    split
    · have := runsFrom_len t pre y (c + 1); rw [List.length_cons]; omega
    · have := runsFrom_len t (pre ++ [[y, c]]) x 1; simp at this; rw [List.length_cons]; omega
theorem runsFrom_rows : ∀ (t : List Int) (pre : List (List Int)) (y c : Int), (∀ r ∈ pre, r.length = 2) → ∀ r ∈ runsFrom pre y c t, r.length = 2
  | [], pre, y, c, h => by
    intro r hr
    rw [runsFrom] at hr
    rcases List.mem_append.1 hr with hr | hr
    · exact h r hr
    · simp at hr; subst hr; rfl
  | x :: t, pre, y, c, h => by
    rw [runsFrom]
    split
    · exact runsFrom_rows t pre y (c + 1) h
    · exact runsFrom_rows t (pre ++ [[y, c]]) x 1 (fun r hr => by
        rcases List.mem_append.1 hr with hr | hr
        · exact h r hr
        · simp at hr; subst hr; rfl)
theorem runsOf_len (l : List Int) : (runsOf l).length ≤ l.length := by
  cases l with
  | nil => simp [runsOf]
  | cons x t => have := runsFrom_len t [] x 1; simp at this; rw [runsOf, List.length_cons]; omega
theorem runsOf_rows (l : List Int) : ∀ r ∈ runsOf l, r.length = 2 := by
  cases l with
  | nil => simp [runsOf]
  | cons x t => exact runsFrom_rows t [] x 1 (by simp)
theorem last_at (pre : List (List Int)) (z : List Int) : (pre ++ [z]).getD (pre.length) [] = z := rdL_app pre z []
theorem wl1 (n : Nat) (hn : n ≤ 1000000) : wrap64 (((n + 1 : Nat) : Int) - 1) = (n : Int) := by rw [wid (by omega) (by omega)]; omega
theorem impl_runs_l (l : List Int) (hl : l.length ≤ 80) (d : Nat) : ∀ (i : Nat) (pre : List (List Int)) (y c : Int), 0 < i → i ≤ l.length → l.length - i = d → rd l ((i - 1 : Nat) : Int) = y → 1 ≤ c → c ≤ (i : Int) → pre.length + 1 ≤ i →
    Ev (fun k => impl_RunsOf.l0 k l (pre ++ [[y, c]]) l (l.length : Int) (i : Int)) (runsFrom pre y c (l.drop i), true) := by
  induction d with
  | zero =>
    intro i pre y c h0 hi hd hy h1 h2 h3
    rw [List.drop_eq_nil_of_le (by omega), runsFrom]
    exact ev_ret (fun k => by rw [impl_RunsOf.l0, if_neg (by omega)])
  | succ d ih =>
    intro i pre y c h0 hi hd hy h1 h2 h3
    rw [drop_cons l i (by omega), runsFrom]
    by_cases h : rd l (i : Int) = y
    · rw [if_pos h]
      have hx := ih (i + 1) pre y (c + 1) (by omega) (by omega) (by omega) (by rw [Nat.add_sub_cancel]; exact h) (by omega) (by omega) (by omega)
      refine Ev.step (fun k => ?_) hx
      have e4 : rd_L2 (pre ++ [[y, c]]) (pre.length : Int) = [y, c] := by unfold rd_L2; rw [Int.toNat_natCast]; exact last_at _ _
      have e5 : (rd [y, c] 1) = c := rfl
      have e7 : [y, c].set (1 : Int).toNat (c + 1) = [y, c + 1] := rfl
      have f1 : (i : Int) < (l.length : Int) := by omega
      have f2 : (0 : Int) ≤ (i : Int) := by omega
      have f3 : (i : Int) > 0 := by omega
      have f4 : (0 : Int) ≤ ((i - 1 : Nat) : Int) := by omega
      have f5 : ((i - 1 : Nat) : Int) < (l.length : Int) := by omega
      have f6 : (0 : Int) ≤ (pre.length : Int) := by omega
      have f7 : (pre.length : Int) < ((pre ++ [[y, c]]).length : Int) := by simp; omega
      have f8 : (1 : Int) < ([y, c].length : Int) := by show (1 : Int) < 2; decide
      have e3 : wrap64 (((pre ++ [[y, c]]).length : Int) - 1) = (pre.length : Int) := by rw [List.length_append, List.length_singleton]; exact wl1 _ (by omega)
      have e6 : wrap64 (c + 1) = c + 1 := wid (by omega) (by omega)
      have e1 : wrap64 ((i : Int) - 1) = ((i - 1 : Nat) : Int) := by rw [wid (by omega) (by omega)]; omega
      have e2 : wrap64 ((i : Int) + 1) = ((i + 1 : Nat) : Int) := by rw [wid (by omega) (by omega)]; omega
      rw [impl_RunsOf.l0, if_pos f1, if_pos f2, if_pos f1, if_pos f3, e1, if_pos f4, if_pos f5, hy, if_pos h.symm, e3, if_pos f6, if_pos f7, e4, if_pos f8, e5, e6, e7, Int.toNat_natCast, setL_app, e2]
    · rw [if_neg h]
      have hx := ih (i + 1) (pre ++ [[y, c]]) (rd l (i : Int)) 1 (by omega) (by omega) (by omega) (by rw [Nat.add_sub_cancel]) (by omega) (by omega) (by simp; omega)
      refine Ev.step (fun k => ?_) hx
      have f1 : (i : Int) < (l.length : Int) := by omega
      have f2 : (0 : Int) ≤ (i : Int) := by omega
      have f3 : (i : Int) > 0 := by omega
      have f4 : (0 : Int) ≤ ((i - 1 : Nat) : Int) := by omega
      have f5 : ((i - 1 : Nat) : Int) < (l.length : Int) := by omega
      have f6 : (pre ++ [[y, c]]).length < 5864062014805 := by simp; omega
      have e1 : wrap64 ((i : Int) - 1) = ((i - 1 : Nat) : Int) := by rw [wid (by omega) (by omega)]; omega
      have e2 : wrap64 ((i : Int) + 1) = ((i + 1 : Nat) : Int) := by rw [wid (by omega) (by omega)]; omega
      rw [impl_RunsOf.l0, if_pos f1, if_pos f2, if_pos f1, if_pos f3, e1, if_pos f4, if_pos f5, hy, if_neg (fun e => h e.symm), if_pos f6, e2]
theorem impl_runs (l : List Int) (hl : l.length ≤ 80) : Ev (fun k => impl_RunsOf.l0 k l [] l (l.length : Int) 0) (runsOf l, true) := by
  cases l with
  | nil => exact ev_ret (fun k => by rw [impl_RunsOf.l0, if_neg (by simp)]; rfl)
  | cons x t =>
    have hx := impl_runs_l (x :: t) hl t.length 1 [] x 1 (by omega) (by simp) (by simp) rfl (by omega) (by omega) (by simp)
    refine Ev.step (fun k => ?_) hx
    rw [impl_RunsOf.l0, if_pos (by simp), if_pos (by decide), if_pos (by simp), if_neg (by decide), if_pos (by decide), wid (x := 0 + 1) (by omega) (by omega)]
    rfl
/-! the list whose runs are given -/
/-- The run at i goes on from out. -/
def runOk (X : List (List Int)) (i : Nat) (n : Nat) : Bool := decide ((rd_L2 X (i : Int)).length = 2) && (decide (1 ≤ rd (rd_L2 X (i : Int)) 1) && decide (rd (rd_L2 X (i : Int)) 1 ≤ 80 - (n : Int))) && !(decide (0 < i) && decide (rd (rd_L2 X ((i - 1 : Nat) : Int)) 0 = rd (rd_L2 X (i : Int)) 0))
def fromR (X : List (List Int)) : Nat → Nat → List Int → List Int × Bool
  | 0, i, out => if isL out = true then (out, true) else ([], false)
  | d + 1, i, out => if runOk X i out.length = true then fromR X d (i + 1) (out ++ List.replicate (rd (rd_L2 X (i : Int)) 1).toNat (rd (rd_L2 X (i : Int)) 0)) else ([], false)
theorem fin_ (p : Bool) (out : List Int) : (if p = true then some (out, true) else some (([] : List Int), false)) = some (if p = true then (out, true) else ([], false)) := by cases p <;> rfl
theorem take1 (x : List Int) (h : x.length = 2) : (x.take 1).length = 1 ∧ rd (x.take 1) 0 = rd x 0 := by
  match x, h with
  | [a, b], _ => exact ⟨rfl, rfl⟩
theorem impl_from (X : List (List Int)) (hX : X.length ≤ 1048576) (d : Nat) : ∀ (i : Nat) (out : List Int), X.length - i = d → i ≤ X.length → out.length ≤ 80 → (0 < i → (rd_L2 X ((i - 1 : Nat) : Int)).length = 2) →
    Ev (fun k => impl_FromRuns.l0 k X out X (X.length : Int) (i : Int)) (fromR X d i out) := by
  induction d with
  | zero =>
    intro i out hd hi hl hp
    rw [fromR]
    refine ev_ret (fun k => ?_)
    rw [impl_FromRuns.l0, if_neg (by omega), impl_list, Option.bind_some, fin_]
  | succ d ih =>
    intro i out hd hi hl hp
    rw [fromR]
    have g1 : (0 : Int) ≤ (i : Int) := by omega
    have g2 : (i : Int) < (X.length : Int) := by omega
    have e3 : wrap64 ((i : Int) + 1) = ((i + 1 : Nat) : Int) := by rw [wid (by omega) (by omega)]; omega
    have ew : wrap64 (80 - (out.length : Int)) = 80 - (out.length : Int) := wid (by omega) (by omega)
    by_cases h2 : (rd_L2 X (i : Int)).length = 2
    case neg =>
      rw [if_neg (by unfold runOk; rw [decide_eq_false h2]; simp)]
      refine ev_ret (fun k => ?_)
      rw [impl_FromRuns.l0, if_pos g2, if_pos g1, if_pos g2, if_neg (by omega)]
    by_cases hr : 1 ≤ rd (rd_L2 X (i : Int)) 1 ∧ rd (rd_L2 X (i : Int)) 1 ≤ 80 - (out.length : Int)
    case neg =>
      rw [if_neg (by
        unfold runOk
        intro h
        simp only [Bool.and_eq_true, decide_eq_true_eq] at h
        omega)]
      refine ev_ret (fun k => ?_)
      rw [impl_FromRuns.l0, if_pos g2, if_pos g1, if_pos g2, if_pos (by omega), if_pos (by omega)]
      unfold impl_length_int64.f
      rw [Option.bind_some, ew, impl_range, Option.bind_some, if_neg (by rw [Bool.and_eq_true, decide_eq_true_eq, decide_eq_true_eq]; exact hr)]
    obtain ⟨t1, t2⟩ := take1 _ h2
    have erep : slices_Repeat_int64_int64.f ((rd_L2 X (i : Int)).take 1) (rd (rd_L2 X (i : Int)) 1) = some (List.replicate (rd (rd_L2 X (i : Int)) 1).toNat (rd (rd_L2 X (i : Int)) 0)) := by
      unfold slices_Repeat_int64_int64.f
      rw [if_pos ⟨t1, hr.1, by omega⟩, t2]
    have hlr : (List.replicate (rd (rd_L2 X (i : Int)) 1).toNat (rd (rd_L2 X (i : Int)) 0)).length = (rd (rd_L2 X (i : Int)) 1).toNat := List.length_replicate
    by_cases hs : 0 < i ∧ rd (rd_L2 X ((i - 1 : Nat) : Int)) 0 = rd (rd_L2 X (i : Int)) 0
    · rw [if_neg (by unfold runOk; rw [decide_eq_true hs.1, decide_eq_true hs.2]; simp)]
      have e2 : wrap64 ((i : Int) - 1) = ((i - 1 : Nat) : Int) := by rw [wid (by omega) (by omega)]; omega
      have hp2 := hp hs.1
      have h0 := hs.1
      refine ev_ret (fun k => ?_)
      rw [impl_FromRuns.l0, if_pos g2, if_pos g1, if_pos g2, if_pos (by omega), if_pos (by omega)]
      unfold impl_length_int64.f
      rw [Option.bind_some, ew, impl_range, Option.bind_some, if_pos (by rw [Bool.and_eq_true, decide_eq_true_eq, decide_eq_true_eq]; exact hr), if_pos (by omega), e2, if_pos (by omega), if_pos (by omega), if_pos (by omega), if_pos (by omega), if_pos hs.2]
    · rw [if_pos (by
        unfold runOk
        rw [decide_eq_true h2, decide_eq_true hr.1, decide_eq_true hr.2]
        simp only [Bool.true_and, Bool.not_eq_true', Bool.and_eq_false_iff, decide_eq_false_iff_not]
        by_cases h0 : 0 < i
        · exact .inr (fun h => hs ⟨h0, h⟩)
        · exact .inl h0)]
      have hx := ih (i + 1) (out ++ List.replicate (rd (rd_L2 X (i : Int)) 1).toNat (rd (rd_L2 X (i : Int)) 0)) (by omega) (by omega) (by simp; omega) (fun _ => by rw [Nat.add_sub_cancel]; exact h2)
      refine Ev.step (fun k => ?_) hx
      rw [impl_FromRuns.l0, if_pos g2, if_pos g1, if_pos g2, if_pos (by omega), if_pos (by omega)]
      unfold impl_length_int64.f
      rw [Option.bind_some, ew, impl_range, Option.bind_some, if_pos (by rw [Bool.and_eq_true, decide_eq_true_eq, decide_eq_true_eq]; exact hr)]
      by_cases h0 : 0 < i
      · have e2 : wrap64 ((i : Int) - 1) = ((i - 1 : Nat) : Int) := by rw [wid (by omega) (by omega)]; omega
        have hp2 := hp h0
        rw [if_pos (by omega), e2, if_pos (by omega), if_pos (by omega), if_pos (by omega), if_pos (by omega), if_neg (fun h => hs ⟨h0, h⟩), if_pos (by omega), erep, Option.bind_some, if_pos (by rw [hlr]; omega), e3]
      · rw [if_neg (by omega), if_pos (by omega), erep, Option.bind_some, if_pos (by rw [hlr]; omega), e3]


/-! a list's runs give the list back -/
def RunsP (X : List (List Int)) : Prop := (∀ r ∈ X, ∃ a n, r = [a, n] ∧ (1 : Int) ≤ n) ∧ ∀ i, i + 1 < X.length → rd (X.getD i []) 0 ≠ rd (X.getD (i + 1) []) 0
def expd (X : List (List Int)) : List Int := (X.map (fun r => List.replicate (rd r 1).toNat (rd r 0))).flatten
theorem runsP_mk (pre : List (List Int)) (y c : Int) (h : RunsP pre) (hc : 1 ≤ c) (hl : ∀ i, i + 1 = pre.length → rd (pre.getD i []) 0 ≠ y) : RunsP (pre ++ [[y, c]]) := by
  refine ⟨fun r hr => ?_, fun i hi => ?_⟩
  · rcases List.mem_append.1 hr with hr | hr
    · exact h.1 r hr
    · rw [List.mem_singleton] at hr; exact ⟨y, c, hr, hc⟩
  · rw [List.length_append, List.length_singleton] at hi
    by_cases q : i + 1 < pre.length
    · have := h.2 i q
      rw [List.getD_eq_getElem?_getD, List.getD_eq_getElem?_getD, List.getElem?_append_left (by omega), List.getElem?_append_left q, ← List.getD_eq_getElem?_getD, ← List.getD_eq_getElem?_getD]
      exact this
    · have e : i + 1 = pre.length := by omega
      have := hl i e
      rw [e, rdL_app, List.getD_eq_getElem?_getD, List.getElem?_append_left (by omega), ← List.getD_eq_getElem?_getD]
      exact this
theorem runsFrom_P : ∀ (t : List Int) (pre : List (List Int)) (y c : Int), RunsP pre → 1 ≤ c → (∀ i, i + 1 = pre.length → rd (pre.getD i []) 0 ≠ y) → RunsP (runsFrom pre y c t)
  | [], pre, y, c, h, hc, hl => by rw [runsFrom]; exact runsP_mk pre y c h hc hl
  | x :: t, pre, y, c, h, hc, hl => by
    rw [runsFrom]
    by_cases e : x = y
    · rw [if_pos e]; exact runsFrom_P t pre y (c + 1) h (by omega) hl
    · rw [if_neg e]
      refine runsFrom_P t (pre ++ [[y, c]]) x 1 (runsP_mk pre y c h hc hl) (by omega) (fun i hi => ?_)
      rw [List.length_append, List.length_singleton] at hi
      obtain rfl : i = pre.length := by omega
      rw [rdL_app]
      exact fun q => e q.symm
theorem runsOf_P (l : List Int) : RunsP (runsOf l) := by
  cases l with
  | nil => exact ⟨by simp [runsOf], by simp [runsOf]⟩
  | cons x t => exact runsFrom_P t [] x 1 ⟨by simp, by simp⟩ (by omega) (by simp)
theorem expd_app (a b : List (List Int)) : expd (a ++ b) = expd a ++ expd b := by unfold expd; rw [List.map_append, List.flatten_append]
theorem expd_one (y c : Int) : expd [[y, c]] = List.replicate c.toNat y := by
  unfold expd
  simp only [List.map_cons, List.map_nil, List.flatten_cons, List.flatten_nil, List.append_nil]
  rfl
theorem runsFrom_expd : ∀ (t : List Int) (pre : List (List Int)) (y c : Int), 1 ≤ c → expd (runsFrom pre y c t) = expd pre ++ List.replicate c.toNat y ++ t
  | [], pre, y, c, hc => by rw [runsFrom, expd_app, expd_one, List.append_nil]
  | x :: t, pre, y, c, hc => by
    rw [runsFrom]
    by_cases e : x = y
    · subst e
      rw [if_pos rfl, runsFrom_expd t pre x (c + 1) (by omega), show (c + 1).toNat = c.toNat + 1 by omega, List.replicate_succ']
      simp
    · rw [if_neg e, runsFrom_expd t _ x 1 (by omega), expd_app, expd_one]
      simp
theorem runsOf_expd (l : List Int) : expd (runsOf l) = l := by
  cases l with
  | nil => rfl
  | cons x t => rw [runsOf, runsFrom_expd t [] x 1 (by omega)]; rfl
theorem fromR_runs (X : List (List Int)) (hP : RunsP X) (d : Nat) : ∀ (i : Nat) (out : List Int), X.length - i = d → i ≤ X.length → isL (out ++ expd (X.drop i)) = true → fromR X d i out = (out ++ expd (X.drop i), true) := by
  induction d with
  | zero =>
    intro i out hd hi hL
    rw [List.drop_eq_nil_of_le (by omega)] at hL ⊢
    rw [show expd [] = [] from rfl, List.append_nil] at hL ⊢
    rw [fromR, if_pos hL]
  | succ d ih =>
    intro i out hd hi hL
    have hi2 : i < X.length := by omega
    obtain ⟨a, n, hr, hn⟩ := hP.1 X[i] (List.getElem_mem hi2)
    have e0 : rd_L2 X (i : Int) = [a, n] := by unfold rd_L2; rw [Int.toNat_natCast, List.getD_eq_getElem?_getD, List.getElem?_eq_getElem hi2, hr]; rfl
    have e1 : expd (X.drop i) = List.replicate n.toNat a ++ expd (X.drop (i + 1)) := by
      rw [List.drop_eq_getElem_cons hi2, hr, ← expd_one a n, ← expd_app]; rfl
    rw [e1] at hL ⊢
    have hlen : out.length + n.toNat ≤ 80 := by
      unfold isL at hL
      rw [Bool.and_eq_true, decide_eq_true_eq] at hL
      have := hL.2
      simp only [List.length_append, List.length_replicate] at this
      omega
    have hk : runOk X i out.length = true := by
      unfold runOk
      rw [e0, show ([a, n] : List Int).length = 2 from rfl, show rd [a, n] 1 = n from rfl, show rd [a, n] 0 = a from rfl, decide_eq_true hn, decide_eq_true (show n ≤ 80 - (out.length : Int) by omega)]
      simp only [decide_true, Bool.true_and, Bool.not_eq_true', Bool.and_eq_false_iff, decide_eq_false_iff_not]
      by_cases h0 : 0 < i
      · right
        have h2 := hP.2 (i - 1) (by omega)
        rw [show i - 1 + 1 = i by omega] at h2
        have e2 : X.getD i [] = [a, n] := by rw [← e0]; unfold rd_L2; rw [Int.toNat_natCast]
        rw [e2] at h2
        unfold rd_L2
        rw [Int.toNat_natCast]
        exact h2
      · exact .inl h0
    rw [fromR, if_pos hk, e0, show rd [a, n] 1 = n from rfl, show rd [a, n] 0 = a from rfl, ih (i + 1) _ (by omega) (by omega) (by rw [List.append_assoc]; exact hL), List.append_assoc]
theorem from_runs (l : List Int) (hL : isL l = true) : fromR (runsOf l) (runsOf l).length 0 [] = (l, true) := by
  have := fromR_runs (runsOf l) (runsOf_P l) (runsOf l).length 0 [] (by omega) (by omega) (by rw [List.drop_zero, List.nil_append, runsOf_expd]; exact hL)
  rw [this, List.drop_zero, List.nil_append, runsOf_expd]

/-! the decimal numeral -/
theorem dd_big {u : Nat} (h : ¬ u < 10) : Go.Lib.decDigits u = Go.Lib.decDigits (u / 10) ++ [UInt8.ofNat (48 + u % 10)] := by rw [Go.Lib.decDigits, dif_neg h]
theorem dd_ind {p : Nat → Prop} (h1 : ∀ u, u < 10 → p u) (h2 : ∀ u, ¬ u < 10 → p (u / 10) → p u) (u : Nat) : p u := by
  induction u using Nat.strongRecOn with
  | _ u ih =>
    by_cases h : u < 10
    · exact h1 u h
    · exact h2 u h (ih (u / 10) (by omega))
theorem dg_nat {d : Nat} (h : d < 10) : (UInt8.ofNat (48 + d)).toNat = 48 + d := by
  have e : (UInt8.ofNat (48 + d)).toNat = (48 + d) % 256 := rfl
  rw [e]; omega
theorem dd_ne (u : Nat) : Go.Lib.decDigits u ≠ [] := by
  refine dd_ind (p := fun u => Go.Lib.decDigits u ≠ []) (fun u h => ?_) (fun u h _ => ?_) u
  · rw [Go.Lib.decDigits_one h]; simp
  · rw [dd_big h]; simp
theorem dd_dig (u : Nat) : ∀ c ∈ Go.Lib.decDigits u, 48 ≤ c.toNat ∧ c.toNat ≤ 57 := by
  refine dd_ind (p := fun u => ∀ c ∈ Go.Lib.decDigits u, 48 ≤ c.toNat ∧ c.toNat ≤ 57) (fun u h c hc => ?_) (fun u h ih c hc => ?_) u
  · rw [Go.Lib.decDigits_one h, List.mem_singleton] at hc
    rw [hc, dg_nat h]; omega
  · rw [dd_big h, List.mem_append, List.mem_singleton] at hc
    rcases hc with hc | hc
    · exact ih c hc
    · rw [hc, dg_nat (by omega)]; omega
def vl (a : Nat) (l : List UInt8) : Nat := l.foldl (fun a c => a * 10 + (c.toNat - 48)) a
theorem vl_cons (a : Nat) (c : UInt8) (l : List UInt8) : vl a (c :: l) = vl (a * 10 + (c.toNat - 48)) l := by unfold vl; rw [List.foldl_cons]
theorem vl_app (a : Nat) (l : List UInt8) (c : UInt8) : vl a (l ++ [c]) = vl a l * 10 + (c.toNat - 48) := by unfold vl; rw [List.foldl_append]; rfl
theorem vl_dd (u : Nat) : vl 0 (Go.Lib.decDigits u) = u := by
  refine dd_ind (p := fun u => vl 0 (Go.Lib.decDigits u) = u) (fun u h => ?_) (fun u h ih => ?_) u
  · rw [Go.Lib.decDigits_one h, vl_cons, dg_nat h]
    show 0 * 10 + (48 + u - 48) = u
    omega
  · rw [dd_big h, vl_app, ih, dg_nat (by omega)]; omega
theorem vl_ge : ∀ (l : List UInt8) (a : Nat), a ≤ vl a l
  | [], a => Nat.le_refl _
  | c :: l, a => by have := vl_ge l (a * 10 + (c.toNat - 48)); rw [vl_cons]; omega
theorem pu_ok : ∀ (l : List UInt8) (acc : Nat), (∀ c ∈ l, 48 ≤ c.toNat ∧ c.toNat ≤ 57) → vl acc l ≤ 1000000000000000000 → Go.Lib.parseUintM (2 ^ 64 - 1) acc l = .ok (vl acc l)
  | [], acc, _, _ => rfl
  | c :: l, acc, h, hv => by
    have hc := h c (List.mem_cons_self ..)
    have hg := vl_ge l (acc * 10 + (c.toNat - 48))
    rw [vl_cons] at hv
    rw [Go.Lib.parseUintM, if_pos hc, if_neg (by omega), if_neg (by omega), vl_cons]
    exact pu_ok l _ (fun c hc => h c (List.mem_cons_of_mem _ hc)) hv
theorem dd_len {u k : Nat} (h : u < 10 ^ (k + 1)) : (Go.Lib.decDigits u).length ≤ k + 1 := by
  induction k generalizing u with
  | zero => rw [Go.Lib.decDigits_one (by simpa using h)]; simp
  | succ k ih =>
    by_cases c : u < 10
    · rw [Go.Lib.decDigits_one c]; simp
    · rw [dd_big c, List.length_append, List.length_singleton]
      have := ih (u := u / 10) (by rw [Nat.pow_succ] at h; omega)
      omega
theorem itoa_len {n : Int} (h1 : -1000000000 ≤ n) (h2 : n ≤ 1000000000) : (Go.Lib.itoa n).length ≤ 11 := by
  unfold Go.Lib.itoa
  split
  · rw [List.length_cons]
    have := dd_len (u := n.natAbs) (k := 9) (by omega)
    omega
  · have := dd_len (u := n.toNat) (k := 9) (by omega)
    omega
theorem itoa_ne (n : Int) : Go.Lib.itoa n ≠ [] := by
  unfold Go.Lib.itoa
  split
  · simp
  · exact dd_ne _
/-- The numeral is read back. -/
theorem parse_itoa {n : Int} (h1 : -1000000000 ≤ n) (h2 : n ≤ 1000000000) : Go.Lib.parseIntB 64 (Go.Lib.itoa n) = .ok n := by
  unfold Go.Lib.itoa
  by_cases c : n < 0
  · rw [if_pos c]
    have e := pu_ok (Go.Lib.decDigits n.natAbs) 0 (dd_dig _) (by rw [vl_dd]; omega)
    rw [vl_dd] at e
    have e2 : Go.Lib.parseUintB 64 (Go.Lib.decDigits n.natAbs) = .ok n.natAbs := by unfold Go.Lib.parseUintB; rw [if_neg (dd_ne _)]; exact e
    unfold Go.Lib.parseIntB
    simp only [show ((45 : UInt8).toNat = 43 ∨ (45 : UInt8).toNat = 45) from Or.inr rfl, if_true, e2]
    rw [if_neg (by rintro ⟨h, -⟩; exact h rfl), if_neg (by rintro ⟨-, h⟩; simp at h; omega), if_pos (show (45 : UInt8).toNat = 45 from rfl)]
    congr 1
    omega
  · rw [if_neg c]
    have e := pu_ok (Go.Lib.decDigits n.toNat) 0 (dd_dig _) (by rw [vl_dd]; omega)
    rw [vl_dd] at e
    have e2 : Go.Lib.parseUintB 64 (Go.Lib.decDigits n.toNat) = .ok n.toNat := by unfold Go.Lib.parseUintB; rw [if_neg (dd_ne _)]; exact e
    have hd := dd_dig n.toNat
    generalize Go.Lib.decDigits n.toNat = l at e2 hd
    cases l with
    | nil => exact absurd e2 (by unfold Go.Lib.parseUintB; rw [if_pos rfl]; simp)
    | cons x l =>
      have hx := hd x (List.mem_cons_self ..)
      unfold Go.Lib.parseIntB
      simp only [show ¬ (x.toNat = 43 ∨ x.toNat = 45) by omega, if_false, e2]
      rw [if_neg (by rintro ⟨-, h⟩; simp at h; omega), if_neg (by rintro ⟨h, -⟩; omega), if_neg (by omega)]
      congr 1
      omega
theorem itoa_inj {n m : Int} (h1 : -1000000000 ≤ n) (h2 : n ≤ 1000000000) (h3 : -1000000000 ≤ m) (h4 : m ≤ 1000000000) (h : Go.Lib.itoa n = Go.Lib.itoa m) : n = m := by
  have a := parse_itoa h1 h2
  rw [h, parse_itoa h3 h4] at a
  injection a with a
  exact a.symm
theorem ba_ext {a b : ByteArray} (h : a.data.toList = b.data.toList) : a = b := by
  cases a with | mk x => cases b with | mk y => exact congrArg ByteArray.mk (Array.toList_inj.1 h)
theorem ba_list (l : List UInt8) : (⟨l.toArray⟩ : ByteArray).data.toList = l := rfl
theorem ba_mk (s : ByteArray) : (⟨s.data.toList.toArray⟩ : ByteArray) = s := ba_ext rfl
theorem ba_size (s : ByteArray) : s.size = s.data.toList.length := by rw [Array.length_toList]; rfl
theorem bt_list (s : ByteArray) (i : Nat) (h : i < s.data.toList.length) : bt s (i : Int) = ((s.data.toList[i]'h).toNat : Int) := by
  have h' : i < s.size := by rw [ba_size]; exact h
  unfold bt
  rw [dif_pos (by rw [Int.toNat_natCast]; exact h')]
  simp only [Int.toNat_natCast, Array.getElem_toList]
  rfl
theorem bt_cons (s : ByteArray) (i : Nat) (c : UInt8) (l : List UInt8) (h : s.data.toList.drop i = c :: l) : i < s.size ∧ bt s (i : Int) = (c.toNat : Int) ∧ s.data.toList.drop (i + 1) = l := by
  have hl : i < s.data.toList.length := by
    have := congrArg List.length h
    rw [List.length_drop, List.length_cons] at this
    omega
  rw [List.drop_eq_getElem_cons hl] at h
  injection h with h1 h2
  refine ⟨by rw [ba_size]; exact hl, ?_, h2⟩
  rw [bt_list s i hl, h1]

/-! texts and their bytes; the numeral's text -/
theorem str1 (x : Int) : strOfNums [x] = ⟨#[UInt8.ofNat x.toNat]⟩ := rfl
theorem ba_app (a b : ByteArray) : (a ++ b).data.toList = a.data.toList ++ b.data.toList := by
  rw [ByteArray.data_append, Array.toList_append]
theorem ba_len (a : ByteArray) : a.size = a.data.toList.length := ba_size a
/-- The numeral's text. -/
def decT (n : Int) : ByteArray := ⟨(Go.Lib.itoa n).toArray⟩

/-! check letters: a changed byte changes them -/
def hsh : Int → List UInt8 → Int
  | x, [] => x
  | x, c :: l => hsh ((31 * x + (c.toNat : Int)) % 676) l
def lett (x : Int) : ByteArray := strOfNums [(wrap64 (97 + (wrap64 (Int.tdiv x 26)))) % 256, (wrap64 (97 + (Int.tmod x 26))) % 256]
theorem letters_l (s : ByteArray) (hs : s.size ≤ 1000000) : ∀ (l : List UInt8) (i : Nat) (x : Int), s.data.toList.drop i = l → i + l.length = s.size → 0 ≤ x → x < 676 → Ev (fun k => impl_CheckLetters.l0 k s x (s.size : Int) (i : Int)) (lett (hsh x l))
  | [], i, x, hd, hl, h0, h1 => by
    rw [List.length_nil] at hl
    exact ev_ret (fun k => by rw [impl_CheckLetters.l0, if_neg (by omega)]; rfl)
  | c :: l, i, x, hd, hl, h0, h1 => by
    obtain ⟨hi, hb, hd2⟩ := bt_cons s i c l hd
    rw [List.length_cons] at hl
    have hc := c.toNat_lt
    have e1 : wrap64 ((i : Int) + 1) = ((i + 1 : Nat) : Int) := by rw [wid (by omega) (by omega)]; omega
    have hx := letters_l s hs l (i + 1) ((31 * x + (c.toNat : Int)) % 676) hd2 (by omega) (Int.emod_nonneg _ (by omega)) (Int.emod_lt_of_pos _ (by omega))
    refine Ev.step (fun k => ?_) hx
    have e2 : Int.tmod (wrap64 ((wrap64 (31 * x)) + (wrap64 (bt s (i : Int))))) 676 = (31 * x + (c.toNat : Int)) % 676 := by
      rw [hb, wid (x := 31 * x) (by omega) (by omega), wid (x := (c.toNat : Int)) (by omega) (by omega), wid (by omega) (by omega), Int.tmod_eq_emod_of_nonneg (by omega)]
    rw [impl_CheckLetters.l0, if_pos (by omega), if_pos (by omega), if_pos (by omega), e2, e1]
theorem hsh_rng : ∀ (l : List UInt8) (x : Int), 0 ≤ x → x < 676 → 0 ≤ hsh x l ∧ hsh x l < 676
  | [], x, h0, h1 => ⟨h0, h1⟩
  | c :: l, x, h0, h1 => hsh_rng l _ (Int.emod_nonneg _ (by omega)) (Int.emod_lt_of_pos _ (by omega))
theorem hsh_inj : ∀ (l : List UInt8) (x y : Int), 0 ≤ x → x < 676 → 0 ≤ y → y < 676 → hsh x l = hsh y l → x = y
  | [], x, y, _, _, _, _, h => h
  | c :: l, x, y, h0, h1, h2, h3, h => by
    have := hsh_inj l _ _ (Int.emod_nonneg _ (by omega)) (Int.emod_lt_of_pos _ (by omega)) (Int.emod_nonneg _ (by omega)) (Int.emod_lt_of_pos _ (by omega)) h
    omega
theorem hsh_app : ∀ (a l : List UInt8) (x : Int), hsh x (a ++ l) = hsh (hsh x a) l
  | [], l, x => rfl
  | c :: a, l, x => hsh_app a l _
theorem lett_inj (x y : Int) (h0 : 0 ≤ x) (h1 : x < 676) (h2 : 0 ≤ y) (h3 : y < 676) (h : (lett x).toList = (lett y).toList) : x = y := by
  have w : ∀ z : Int, 0 ≤ z → z < 676 → (lett z).data.toList = [UInt8.ofNat (97 + z / 26).toNat, UInt8.ofNat (97 + z % 26).toNat] := by
    intro z z0 z1
    unfold lett
    rw [Int.tdiv_eq_ediv_of_nonneg z0, Int.tmod_eq_emod_of_nonneg z0, wid (x := z / 26) (by omega) (by omega), wid (x := 97 + z / 26) (by omega) (by omega), wid (x := 97 + z % 26) (by omega) (by omega), show (97 + z / 26) % 256 = 97 + z / 26 by omega, show (97 + z % 26) % 256 = 97 + z % 26 by omega]
    rfl
  rw [ByteArray.toList_eq, ByteArray.toList_eq, w x h0 h1, w y h2 h3] at h
  simp only [List.cons.injEq, and_true] at h
  have a := congrArg UInt8.toNat h.1
  have b := congrArg UInt8.toNat h.2
  rw [UInt8.toNat_ofNat', UInt8.toNat_ofNat'] at a b
  omega
theorem bent_diff (p q : List UInt8) (b c : UInt8) (h : b ≠ c) : hsh 1 (p ++ b :: q) ≠ hsh 1 (p ++ c :: q) := by
  rw [hsh_app, hsh_app]
  intro e
  have r := hsh_rng p 1 (by omega) (by omega)
  have e2 := hsh_inj q _ _ (Int.emod_nonneg _ (by omega)) (Int.emod_lt_of_pos _ (by omega)) (Int.emod_nonneg _ (by omega)) (Int.emod_lt_of_pos _ (by omega)) e
  have hb := b.toNat_lt
  have hc := c.toNat_lt
  exact h (UInt8.toNat_inj.1 (by omega))

/-! texts joined -/
theorem join_snoc (xs : List (List UInt8)) (h : xs ≠ []) (y s : List UInt8) : Go.Lib.join (xs ++ [y]) s = Go.Lib.join xs s ++ s ++ y := by
  cases xs with
  | nil => exact absurd rfl h
  | cons x r =>
    rw [List.cons_append, Go.Lib.join_cons, Go.Lib.join_cons]
    unfold Go.Lib.joinTail
    rw [List.map_append, List.flatten_append]
    simp
theorem join_len (c : Nat) : ∀ (xs : List (List UInt8)) (s : List UInt8), s.length ≤ 1 → (∀ x ∈ xs, x.length ≤ c) → (Go.Lib.join xs s).length ≤ (c + 1) * xs.length
  | [], s, _, _ => by rw [Go.Lib.join_nil]; simp
  | x :: r, s, hs, h => by
    rw [Go.Lib.join_cons, List.length_append, Go.Lib.joinTail_length]
    have hx := h x (List.mem_cons_self ..)
    have hl : ∀ (r : List (List UInt8)), (∀ x ∈ r, x.length ≤ c) → Go.Lib.lens r ≤ c * r.length := by
      intro r
      induction r with
      | nil => intro _; simp [Go.Lib.lens]
      | cons a r ih =>
        intro h
        have h1 := ih (fun x hx => h x (List.mem_cons_of_mem _ hx))
        have h2 := h a (List.mem_cons_self ..)
        unfold Go.Lib.lens at h1 ⊢
        rw [List.map_cons, List.sum_cons, List.length_cons, Nat.mul_succ]
        omega
    have h1 := hl r (fun x hx => h x (List.mem_cons_of_mem _ hx))
    have h2 : s.length * r.length ≤ 1 * r.length := Nat.mul_le_mul_right _ hs
    rw [List.length_cons, Nat.mul_succ, Nat.add_mul]
    omega
theorem join_ne (x : List UInt8) (r : List (List UInt8)) (s : List UInt8) (h : x ≠ []) : Go.Lib.join (x :: r) s ≠ [] := by
  rw [Go.Lib.join_cons]
  cases x with
  | nil => exact absurd rfl h
  | cons a x => simp

theorem impl_dec (n : Int) (h0 : -9223372036854775808 ≤ n) (h1 : n ≤ 9223372036854775807) : impl_Decimal.f n = some (decT n) := by unfold impl_Decimal.f; rw [if_pos ⟨h0, h1⟩]; rfl

/-! the text of a list -/
def listT (l : List Int) : ByteArray := if l = [] then ⟨#[110, 111, 110, 101]⟩ else ⟨(Go.Lib.join (l.map Go.Lib.itoa) [32]).toArray⟩
theorem listT_len (l : List Int) (hb : ∀ x ∈ l, -1000000000 ≤ x ∧ x ≤ 1000000000) (hl : l.length ≤ 80) : (Go.Lib.join (l.map Go.Lib.itoa) [32]).length ≤ 960 := by
  have h := join_len 11 (l.map Go.Lib.itoa) [32] (by simp) (fun x hx => by
    obtain ⟨y, hy, rfl⟩ := List.mem_map.1 hx
    have := hb y hy
    exact itoa_len this.1 this.2)
  rw [List.length_map] at h
  omega
theorem impl_listText_l (l : List Int) (hb : ∀ x ∈ l, -1000000000 ≤ x ∧ x ≤ 1000000000) (hl : l.length ≤ 80) (d : Nat) : ∀ (i : Nat), l.length - i = d → i ≤ l.length → Ev (fun k => impl_listText.l0 k ((l.take i).map decT) l (l.length : Int) (i : Int)) (listT l) := by
  induction d with
  | zero =>
    intro i hd hi
    rw [List.take_of_length_le (by omega)]
    refine ev_ret (fun k => ?_)
    rw [impl_listText.l0, if_neg (by omega), List.length_map]
    unfold listT
    by_cases h : l = []
    · subst h
      rw [if_pos rfl, if_pos (by simp)]
    · rw [if_neg h, if_neg (by intro e; exact h (List.eq_nil_of_length_eq_zero (by omega)))]
      have e : (l.map decT).map (fun x : ByteArray => x.data.toList) = l.map Go.Lib.itoa := by rw [List.map_map]; rfl
      unfold strings_Join.f
      rw [e]
      have h1 := listT_len l hb hl
      rw [if_pos ⟨by rw [List.length_map]; omega, by show (Go.Lib.join (l.map Go.Lib.itoa) [32]).length ≤ _; omega⟩]
      rfl
  | succ d ih =>
    intro i hd hi
    have hx := ih (i + 1) (by omega) (by omega)
    rw [take_snoc l i (by omega), List.map_append, List.map_cons, List.map_nil] at hx
    have hr := hb _ (rd_mem l i (by omega))
    refine Ev.step (fun k => ?_) hx
    rw [impl_listText.l0, if_pos (by omega), if_pos (by omega), if_pos (by omega), impl_dec _ (by omega) (by omega), Option.bind_some, if_pos (by simp; omega), wid (x := (i : Int) + 1) (by omega) (by omega), show ((i + 1 : Nat) : Int) = (i : Int) + 1 by omega]
theorem impl_listText (l : List Int) (hb : ∀ x ∈ l, -1000000000 ≤ x ∧ x ≤ 1000000000) (hl : l.length ≤ 80) : Ev (fun k => impl_listText.f k l) (listT l) := impl_listText_l l hb hl l.length 0 (by omega) (by omega)

/-! a text cut at a byte -/
def pcs (b : UInt8) : List UInt8 → List UInt8 → List (List UInt8)
  | cur, [] => [cur]
  | cur, c :: l => if c = b then cur :: pcs b [] l else pcs b (cur ++ [c]) l
theorem pcs_app (b : UInt8) : ∀ (a cur l : List UInt8), b ∉ a → pcs b cur (a ++ l) = pcs b (cur ++ a) l
  | [], cur, l, _ => by simp
  | c :: a, cur, l, h => by
    rw [List.cons_append, pcs, if_neg (fun e => h (by rw [e]; exact List.mem_cons_self ..)), pcs_app b a (cur ++ [c]) l (fun q => h (List.mem_cons_of_mem _ q))]
    simp
theorem pcs_len (b : UInt8) : ∀ (l cur w : List UInt8), w ∈ pcs b cur l → w.length ≤ cur.length + l.length
  | [], cur, w, h => by
    rw [pcs, List.mem_singleton] at h
    rw [h]; simp
  | c :: l, cur, w, h => by
    rw [pcs] at h
    split at h
    · rcases List.mem_cons.1 h with rfl | h
      · omega
      · have := pcs_len b l [] w h
        rw [List.length_nil] at this
        rw [List.length_cons]; omega
    · have := pcs_len b l (cur ++ [c]) w h
      rw [List.length_append, List.length_singleton] at this
      rw [List.length_cons]; omega
theorem occ1 (b : UInt8) (l : List UInt8) (i : Nat) : Go.Lib.occAt l [b] i = (l[i]? == some b) := by
  unfold Go.Lib.occAt
  by_cases h : i < l.length
  · rw [List.drop_eq_getElem_cons h, List.getElem?_eq_getElem h]
    simp only [List.isPrefixOf, Bool.and_true]
    rw [Bool.eq_iff_iff]
    simp only [beq_iff_eq, Option.some.injEq]
    exact eq_comm
  · rw [List.drop_eq_nil_of_le (by omega), List.getElem?_eq_none (by omega)]
    rfl
theorem idx_no (b : UInt8) (l : List UInt8) (h : b ∉ l) : Go.Lib.index l [b] = -1 := by
  refine Go.Lib.index_none (fun j _ => ?_)
  rw [occ1]
  by_cases hj : j < l.length
  · rw [List.getElem?_eq_getElem hj]
    have : l[j] ≠ b := fun e => h (by rw [← e]; exact List.getElem_mem _)
    simpa using this
  · rw [List.getElem?_eq_none (by omega)]; rfl
theorem idx_yes (b : UInt8) (a r : List UInt8) (h : b ∉ a) : Go.Lib.index (a ++ b :: r) [b] = (a.length : Int) := by
  refine Go.Lib.index_first (by simp) ?_ (fun j hj => ?_)
  · rw [occ1, List.getElem?_append_right (Nat.le_refl _), Nat.sub_self]
    simp
  · rw [occ1, List.getElem?_append_left hj, List.getElem?_eq_getElem hj]
    have : a[j] ≠ b := fun e => h (by rw [← e]; exact List.getElem_mem _)
    simpa using this
theorem split_pcs (b : UInt8) (n : Nat) : ∀ (l : List UInt8), l.length ≤ n → Go.Lib.split l [b] = pcs b [] l := by
  induction n with
  | zero =>
    intro l hl
    have : l = [] := List.eq_nil_of_length_eq_zero (by omega)
    subst this
    unfold Go.Lib.split
    rw [Go.Lib.count_miss (idx_no b [] (by simp))]
    rfl
  | succ n ih =>
    intro l hl
    by_cases h : b ∈ l
    · obtain ⟨a, r, rfl, ha⟩ := List.eq_append_cons_of_mem h
      have hi := idx_yes b a r ha
      have hd : (a ++ b :: r).drop (a.length + 1) = r := by rw [← List.drop_drop, List.drop_left]; rfl
      unfold Go.Lib.split
      rw [Go.Lib.count_hit (by simp) hi, List.length_singleton, hd, Nat.add_comm 1, Go.Lib.splitK, if_neg (by rw [hi]; simp), hi, Int.toNat_natCast, Nat.add_zero, List.take_left, List.length_singleton, hd]
      rw [pcs_app b a [] _ ha, List.nil_append, pcs, if_pos rfl]
      congr 1
      rw [List.length_append, List.length_cons] at hl
      exact ih r (by omega)
    · unfold Go.Lib.split
      rw [Go.Lib.count_miss (idx_no b l h)]
      have := pcs_app b l [] [] h
      rw [List.append_nil, List.nil_append] at this
      rw [this]
      rfl

/-! ReadDecimal, the program's and the reference's -/
def isNum (s : ByteArray) (v : Int) : Prop := -1000000000 ≤ v ∧ v ≤ 1000000000 ∧ Go.Lib.itoa v = s.data.toList
theorem impl_rd_yes (s : ByteArray) (v : Int) (h : isNum s v) : impl_ReadDecimal.out s = (v, true) := by
  unfold impl_ReadDecimal.out
  rw [← h.2.2, parse_itoa h.1 h.2.1]
  show (if (-1000000000 ≤ v ∧ v ≤ 1000000000) ∧ (⟨(Go.Lib.itoa v).toArray⟩ : ByteArray).toList = s.toList then (v, true) else (0, false)) = (v, true)
  rw [if_pos ⟨⟨h.1, h.2.1⟩, by rw [ByteArray.toList_eq, ByteArray.toList_eq, h.2.2]⟩]
theorem impl_rd_no (s : ByteArray) (h : ∀ v, ¬ isNum s v) : impl_ReadDecimal.out s = (0, false) := by
  unfold impl_ReadDecimal.out
  split
  · rename_i v e
    rw [if_neg]
    rintro ⟨⟨a, b⟩, c⟩
    rw [ByteArray.toList_eq, ByteArray.toList_eq] at c
    exact h v ⟨a, b, c⟩
  · rfl
theorem impl_rd (s : ByteArray) (hs : s.size ≤ 140737488351232) : impl_ReadDecimal.f s = some (impl_ReadDecimal.out s) := by unfold impl_ReadDecimal.f; rw [if_pos hs]

/-! ReadList, the program's and the reference's -/
def rdAll : List Int → List (List UInt8) → List Int × Bool
  | acc, [] => (acc, true)
  | acc, w :: ws => if (impl_ReadDecimal.out ⟨w.toArray⟩).2 = true then (if acc.length = 80 then ([], false) else rdAll (acc ++ [(impl_ReadDecimal.out ⟨w.toArray⟩).1]) ws) else ([], false)
theorem rdAll_len : ∀ (ws : List (List UInt8)) (acc : List Int), acc.length ≤ 80 → (rdAll acc ws).1.length ≤ 80
  | [], acc, h => h
  | w :: ws, acc, h => by
    rw [rdAll]
    split
    · split
      · simp
      · exact rdAll_len ws _ (by simp; omega)
    · simp
theorem impl_rl_l0 (W : List ByteArray) (hW : ∀ w ∈ W, w.size ≤ 2000000) (hl : W.length ≤ 2000000) (d : Nat) : ∀ (i : Nat) (acc : List Int), W.length - i = d → i ≤ W.length → acc.length ≤ 80 →
    Ev (fun k => impl_ReadList.l0 k acc W (W.length : Int) (i : Int)) (rdAll acc ((W.drop i).map (fun w : ByteArray => w.data.toList))) := by
  induction d with
  | zero =>
    intro i acc hd hi ha
    rw [List.drop_eq_nil_of_le (by omega), List.map_nil, rdAll]
    exact ev_ret (fun k => by rw [impl_ReadList.l0, if_neg (by omega)])
  | succ d ih =>
    intro i acc hd hi ha
    have hx := fun acc h => ih (i + 1) acc (by omega) (by omega) h
    have hl2 : i < W.length := by omega
    have hr : rdOf ByteArray.empty W (i : Int) = W[i] := by unfold rdOf; rw [Int.toNat_natCast, List.getD_eq_getElem?_getD, List.getElem?_eq_getElem hl2]; rfl
    have hs := hW _ (List.getElem_mem hl2)
    rw [List.drop_eq_getElem_cons hl2, List.map_cons, rdAll, ba_mk]
    have e2 : wrap64 ((i : Int) + 1) = ((i + 1 : Nat) : Int) := by rw [wid (by omega) (by omega)]; omega
    have hf := impl_rd W[i] (by omega)
    generalize impl_ReadDecimal.out W[i] = o at hf
    by_cases c : o.2 = true
    · by_cases c2 : acc.length = 80
      · rw [if_pos c, if_pos c2]
        exact ev_ret (fun k => by rw [impl_ReadList.l0, if_pos (by omega), if_pos (by omega), if_pos (by omega), hr, hf, Option.bind_some, if_pos c, if_pos (by omega)])
      · rw [if_pos c, if_neg c2]
        refine Ev.step (fun k => ?_) (hx (acc ++ [o.1]) (by simp; omega))
        rw [impl_ReadList.l0, if_pos (by omega), if_pos (by omega), if_pos (by omega), hr, hf, Option.bind_some, if_pos c, if_neg (by omega), if_pos (by omega), e2]
    · rw [if_neg c]
      exact ev_ret (fun k => by rw [impl_ReadList.l0, if_pos (by omega), if_pos (by omega), if_pos (by omega), hr, hf, Option.bind_some, if_neg c])
def listOf (s : ByteArray) : List Int × Bool := if s.data.toList = [110, 111, 110, 101] then ([], true) else rdAll [] (pcs 32 [] s.data.toList)
theorem split_is (s : ByteArray) : (Go.Lib.splitB (⟨#[32]⟩ : ByteArray) 0 (Go.Lib.countB s (⟨#[32]⟩ : ByteArray)) s).map (fun w : ByteArray => w.data.toList) = pcs 32 [] s.data.toList := by
  rw [Go.Lib.splitB_data]
  exact split_pcs 32 s.data.toList.length _ (Nat.le_refl _)
theorem impl_rl (s : ByteArray) (hs : s.size ≤ 1048576) : Ev (fun k => impl_ReadList.f k s) (listOf s) := by
  unfold impl_ReadList.f listOf
  simp only [Option.bind_some, ByteArray.toList_eq]
  by_cases h : s.data.toList = [110, 111, 110, 101]
  · simp only [if_pos h]; exact Ev.now _
  · simp only [if_neg h]
    have hsp : strings_Split.f s (⟨#[32]⟩ : ByteArray) = some (Go.Lib.splitB (⟨#[32]⟩ : ByteArray) 0 (Go.Lib.countB s (⟨#[32]⟩ : ByteArray)) s) := by
      unfold strings_Split.f
      rw [if_pos ⟨by omega, by show 1 ≤ 1; omega⟩]
    rw [hsp]
    have hp := split_is s
    have hle := Go.Lib.splitB_length_le (⟨#[32]⟩ : ByteArray) 0 (Go.Lib.countB s (⟨#[32]⟩ : ByteArray)) s
    have hcl := Go.Lib.count_le s.data.toList [32]
    have hc2 : Go.Lib.countB s (⟨#[32]⟩ : ByteArray) ≤ s.data.toList.length + 1 := hcl
    rw [← ba_size] at hc2
    generalize Go.Lib.splitB (⟨#[32]⟩ : ByteArray) 0 (Go.Lib.countB s (⟨#[32]⟩ : ByteArray)) s = W at *
    have hW : ∀ w ∈ W, w.size ≤ 2000000 := by
      intro w hw
      have h1 : w.data.toList ∈ pcs 32 [] s.data.toList := by rw [← hp]; exact List.mem_map.2 ⟨w, hw, rfl⟩
      have h2 := pcs_len 32 _ _ _ h1
      rw [← ba_size, ← ba_size, List.length_nil] at h2
      omega
    have h0 := impl_rl_l0 W hW (by omega) W.length 0 [] (by omega) (by omega) (by simp)
    rw [List.drop_zero, hp] at h0
    exact Ev.bind (Ev.now W) h0

/-! a list is read back from its text -/
theorem itoa_chr (n : Int) : ∀ c ∈ Go.Lib.itoa n, c.toNat = 45 ∨ 48 ≤ c.toNat := by
  intro c hc
  unfold Go.Lib.itoa at hc
  split at hc
  · rcases List.mem_cons.1 hc with rfl | hc
    · exact .inl rfl
    · exact .inr (dd_dig _ c hc).1
  · exact .inr (dd_dig _ c hc).1
theorem itoa_32 (n : Int) : (32 : UInt8) ∉ Go.Lib.itoa n := fun h => by
  have := itoa_chr n 32 h
  rw [show (32 : UInt8).toNat = 32 from rfl] at this
  omega
theorem itoa_dig (n : Int) : ∀ c ∈ Go.Lib.itoa n, c.toNat = 45 ∨ c.toNat ≤ 57 := by
  intro c hc
  unfold Go.Lib.itoa at hc
  split at hc
  · rcases List.mem_cons.1 hc with rfl | hc
    · exact .inl rfl
    · exact .inr (dd_dig _ c hc).2
  · exact .inr (dd_dig _ c hc).2
theorem pcs_tail (b : UInt8) : ∀ (r : List (List UInt8)) (cur : List UInt8), (∀ w ∈ r, b ∉ w) → pcs b cur (Go.Lib.joinTail [b] r) = cur :: r
  | [], cur, _ => rfl
  | w :: r, cur, h => by
    have e : Go.Lib.joinTail [b] (w :: r) = b :: (w ++ Go.Lib.joinTail [b] r) := by unfold Go.Lib.joinTail; simp
    rw [e, pcs, if_pos rfl, pcs_app b w [] _ (h w (List.mem_cons_self ..)), List.nil_append, pcs_tail b r w (fun x hx => h x (List.mem_cons_of_mem _ hx))]
theorem pcs_join (b : UInt8) (w : List UInt8) (r : List (List UInt8)) (h : ∀ x ∈ w :: r, b ∉ x) : pcs b [] (Go.Lib.join (w :: r) [b]) = w :: r := by
  rw [Go.Lib.join_cons, pcs_app b w [] _ (h w (List.mem_cons_self ..)), List.nil_append, pcs_tail b r w (fun x hx => h x (List.mem_cons_of_mem _ hx))]
theorem rdAll_itoa : ∀ (l acc : List Int), (∀ x ∈ l, -1000000000 ≤ x ∧ x ≤ 1000000000) → acc.length + l.length ≤ 80 → rdAll acc (l.map Go.Lib.itoa) = (acc ++ l, true)
  | [], acc, _, _ => by rw [List.map_nil, rdAll, List.append_nil]
  | x :: l, acc, hb, hl => by
    rw [List.length_cons] at hl
    have h := hb x (List.mem_cons_self ..)
    have e := impl_rd_yes ⟨(Go.Lib.itoa x).toArray⟩ x ⟨h.1, h.2, rfl⟩
    rw [List.map_cons, rdAll, e, if_pos rfl, if_neg (by omega), rdAll_itoa l (acc ++ [x]) (fun y hy => hb y (List.mem_cons_of_mem _ hy)) (by simp; omega)]
    simp
theorem list_back (l : List Int) (hb : ∀ x ∈ l, -1000000000 ≤ x ∧ x ≤ 1000000000) (hl : l.length ≤ 80) : listOf (listT l) = (l, true) := by
  cases l with
  | nil => rfl
  | cons x r =>
    have e : (listT (x :: r)).data.toList = Go.Lib.join ((x :: r).map Go.Lib.itoa) [32] := by unfold listT; rw [if_neg (by simp)]
    have hp : pcs 32 [] (Go.Lib.join ((x :: r).map Go.Lib.itoa) [32]) = (x :: r).map Go.Lib.itoa := by
      rw [List.map_cons]
      refine pcs_join 32 _ _ (fun w hw => ?_)
      rw [← List.map_cons] at hw
      obtain ⟨y, _, rfl⟩ := List.mem_map.1 hw
      exact itoa_32 y
    unfold listOf
    rw [e, if_neg, hp, rdAll_itoa _ _ hb (by simpa using hl), List.nil_append]
    intro h
    rw [h] at hp
    have h2 : pcs 32 [] [110, 111, 110, 101] = [[110, 111, 110, 101]] := rfl
    rw [h2, List.map_cons] at hp
    have h3 : [110, 111, 110, 101] = Go.Lib.itoa x := (List.cons.inj hp).1
    have h4 := itoa_dig x 110 (by rw [← h3]; exact List.mem_cons_self ..)
    rw [show (110 : UInt8).toNat = 110 from rfl] at h4
    omega

theorem u8_bd {x : Int} (h : (Lit.int .u8 x).wf = true) : 0 ≤ x ∧ x ≤ 255 := by
  simp [Lit.wf, IntKind.min, IntKind.max, IntKind.signed, IntKind.bits] at h
  exact h

def longOf (l0 l1 : List Int) : Bool := decide ((l0.length : Int) > 1048576 ∨ (l1.length : Int) > 1048576)
theorem b10Long_is (l0 l1 : List Int) : laws_b10Long.f l0 l1 = some (longOf l0 l1) := by
  unfold laws_b10Long.f longOf
  by_cases h : (l0.length : Int) > 1048576
  · rw [if_pos h, decide_eq_true (Or.inl h)]
  · rw [if_neg h]
    by_cases g : (l1.length : Int) > 1048576
    · rw [decide_eq_true g, decide_eq_true (Or.inr g)]
    · rw [decide_eq_false g, decide_eq_false (by omega)]
theorem rd_in (xs : List Int) (i : Int) (h0 : 0 ≤ i) (h1 : i < (xs.length : Int)) : rd xs i ∈ xs := by
  unfold rd
  rw [List.getD_eq_getElem?_getD, List.getElem?_eq_getElem (by omega)]
  exact List.getElem_mem _
/-- A number from 0 to n - 1. -/
theorem b10At_is (l : List Int) (u : ∀ x ∈ l, (Lit.int .u8 x).wf = true) (i n : Int) (h0 : 0 ≤ i) (h1 : i ≤ 1000) (hn : 2 ≤ n) :
    ∃ t, laws_b10At.f l i n = some t ∧ 0 ≤ t ∧ t < n := by
  unfold laws_b10At.f
  rw [if_neg (by omega)]
  by_cases h : i < (l.length : Int)
  · have hb := u8_bd (u _ (rd_in l i h0 h))
    refine ⟨rd l i % n, ?_, Int.emod_nonneg _ (by omega), Int.emod_lt_of_pos _ (by omega)⟩
    rw [if_pos h, if_pos h0, if_neg (by omega), wid (by omega) (by omega), Int.tmod_eq_emod_of_nonneg hb.1]
  · refine ⟨(i * 37 + 11) % n, ?_, Int.emod_nonneg _ (by omega), Int.emod_lt_of_pos _ (by omega)⟩
    rw [if_neg h, if_neg (by omega), wid (x := i * 37) (by omega) (by omega), wid (by omega) (by omega), Int.tmod_eq_emod_of_nonneg (by omega)]

/-! the source that draws -/
theorem and255 (a : Int) : 0 ≤ Go.bits .and .u64 a 255 ∧ Go.bits .and .u64 a 255 ≤ 255 := by
  have h : ((BitVec.ofInt 64 a) &&& (BitVec.ofInt 64 255)).toNat ≤ 255 := by
    rw [BitVec.toNat_and]
    exact Nat.and_le_right
  have e : Go.bits .and .u64 a 255 = IntKind.u64.wrap ((((BitVec.ofInt 64 a) &&& (BitVec.ofInt 64 255)).toNat : Nat) : Int) := rfl
  rw [e]
  generalize ((BitVec.ofInt 64 a) &&& (BitVec.ofInt 64 255)).toNat = n at h
  simp only [IntKind.wrap, IntKind.bits, IntKind.signed]
  simp
  omega
theorem next_ok (l : List Int) (u : ∀ x ∈ l, (Lit.int .u8 x).wf = true) (at_ sd : Int) (h0 : 0 ≤ at_) (h1 : at_ ≤ 4611686018427387904) :
    ∃ t sd', spec_l00Src_next.f l at_ sd = some (t, at_ + 1, sd') ∧ 0 ≤ t ∧ t ≤ 255 := by
  have hw : wrap64 (at_ + 1) = at_ + 1 := wid (by omega) (by omega)
  unfold spec_l00Src_next.f
  rw [hw]
  by_cases h : at_ < (l.length : Int)
  · obtain ⟨i, rfl⟩ := Int.eq_ofNat_of_zero_le h0
    have hb := u8_bd (u _ (rd_mem l i (by omega)))
    rw [if_pos h, if_pos h0, if_pos (by omega), wid (x := rd l (i : Int)) (by omega) (by omega)]
    exact ⟨_, _, rfl, hb⟩
  · rw [if_neg h, if_neg (by omega)]
    refine ⟨_, _, rfl, ?_⟩
    have := and255 ((IntKind.u64.wrap (IntKind.u64.wrap (IntKind.u64.wrap (sd * 6364136223846793005)) + 1442695040888963407)) / 1099511627776)
    rw [wid (by omega) (by omega)]
    exact this
theorem pick_ok (l : List Int) (u : ∀ x ∈ l, (Lit.int .u8 x).wf = true) (at_ sd n : Int) (h0 : 0 ≤ at_) (h1 : at_ ≤ 2305843009213693952) (hn : 1 ≤ n) (hn2 : n ≤ 65536) :
    ∃ t at' sd', spec_l00Src_pick.f l at_ sd n = some (t, at', sd') ∧ 0 ≤ t ∧ t < n ∧ at_ ≤ at' ∧ at' ≤ at_ + 2 := by
  unfold spec_l00Src_pick.f
  by_cases h : n ≤ 1
  · rw [if_pos h]
    exact ⟨0, at_, sd, rfl, by omega, by omega, by omega, by omega⟩
  · rw [if_neg h]
    obtain ⟨t, sd1, e1, a1, b1⟩ := next_ok l u at_ sd h0 (by omega)
    rw [e1, Option.bind_some]
    by_cases g : n > 200
    · rw [if_pos g]
      obtain ⟨t2, sd2, e2, a2, b2⟩ := next_ok l u (at_ + 1) sd1 (by omega) (by omega)
      show ∃ t at' sd', (spec_l00Src_next.f l (at_ + 1) sd1).bind _ = some (t, at', sd') ∧ _
      rw [e2, Option.bind_some, if_neg (by omega)]
      have w1 : wrap64 (t * 256) = t * 256 := wid (by omega) (by omega)
      have w2 : wrap64 (t * 256 + t2) = t * 256 + t2 := wid (by omega) (by omega)
      refine ⟨_, _, _, rfl, ?_, ?_, (show at_ ≤ at_ + 1 + 1 by omega), (show at_ + 1 + 1 ≤ at_ + 2 by omega)⟩
      · show 0 ≤ Int.tmod (wrap64 (wrap64 (t * 256) + t2)) n
        rw [w1, w2, Int.tmod_eq_emod_of_nonneg (by omega)]; exact Int.emod_nonneg _ (by omega)
      · show Int.tmod (wrap64 (wrap64 (t * 256) + t2)) n < n
        rw [w1, w2, Int.tmod_eq_emod_of_nonneg (by omega)]; exact Int.emod_lt_of_pos _ (by omega)
    · rw [if_neg g, if_neg (by omega)]
      refine ⟨_, _, _, rfl, ?_, ?_, (show at_ ≤ at_ + 1 by omega), (show at_ + 1 ≤ at_ + 2 by omega)⟩
      · show 0 ≤ Int.tmod t n
        rw [Int.tmod_eq_emod_of_nonneg a1]; exact Int.emod_nonneg _ (by omega)
      · show Int.tmod t n < n
        rw [Int.tmod_eq_emod_of_nonneg a1]; exact Int.emod_lt_of_pos _ (by omega)

theorem b10list_l (l : List Int) (u : ∀ x ∈ l, (Lit.int .u8 x).wf = true) : ∀ (n : Nat) (acc : List Int) (v at_ sd : Int), acc.length + n ≤ 13 → (∀ x ∈ acc, -3 ≤ x ∧ x ≤ 5) → -3 ≤ v → v ≤ 5 → 0 ≤ at_ → at_ + 4 * (n : Int) ≤ 1000 →
    ∃ r, Ev (fun k => spec_B10List.l0 k acc v (n : Int) l at_ sd) r ∧ r.length ≤ 13 ∧ ∀ x ∈ r, -3 ≤ x ∧ x ≤ 5
  | 0, acc, v, at_, sd, hl, hb, _, _, _, _ => ⟨acc, ev_ret (fun k => by rw [spec_B10List.l0, if_neg (by omega)]), by omega, hb⟩
  | n + 1, acc, v, at_, sd, hl, hb, v1, v2, h0, h1 => by
    obtain ⟨t, a1, s1, e1, t1, t2, b1, c1⟩ := pick_ok l u at_ sd 2 h0 (by omega) (by omega) (by omega)
    have w : wrap64 (((n + 1 : Nat) : Int) - 1) = (n : Int) := by rw [wid (by omega) (by omega)]; omega
    have o1 : spec_l00Src_one.f l at_ sd 2 = some (t == 0, a1, s1) := by unfold spec_l00Src_one.f; rw [e1]; rfl
    by_cases q : (t == 0) = true
    · obtain ⟨t', a2, s2, e2, t3, t4, b2, c2⟩ := pick_ok l u a1 s1 9 (by omega) (by omega) (by omega) (by omega)
      obtain ⟨r, hr, r1, r2⟩ := b10list_l l u n (acc ++ [t' - 3]) (t' - 3) a2 s2 (by simp; omega) (fun x hx => by
        rcases List.mem_append.1 hx with hx | hx
        · exact hb x hx
        · rw [List.mem_singleton] at hx; omega) (by omega) (by omega) (by omega) (by omega)
      refine ⟨r, Ev.step (fun k => ?_) hr, r1, r2⟩
      rw [spec_B10List.l0, if_pos (by omega), o1, Option.bind_some]
      show (if (t == 0) = true then _ else _) = _
      rw [if_pos q]
      show ((spec_l00Src_pick.f l a1 s1 9).bind _) = _
      rw [e2, Option.bind_some, if_pos (by omega), w, show wrap64 (t' - 3) = t' - 3 from wid (by omega) (by omega)]
    · obtain ⟨r, hr, r1, r2⟩ := b10list_l l u n (acc ++ [v]) v a1 s1 (by simp; omega) (fun x hx => by
        rcases List.mem_append.1 hx with hx | hx
        · exact hb x hx
        · rw [List.mem_singleton] at hx; omega) v1 v2 (by omega) (by omega)
      refine ⟨r, Ev.step (fun k => ?_) hr, r1, r2⟩
      rw [spec_B10List.l0, if_pos (by omega), o1, Option.bind_some]
      show (if (t == 0) = true then _ else _) = _
      rw [if_neg q, if_pos (by omega), w]
theorem b10list (l : List Int) (u : ∀ x ∈ l, (Lit.int .u8 x).wf = true) : ∃ r, Ev (fun k => spec_B10List.f k l) r ∧ r.length ≤ 13 ∧ ∀ x ∈ r, -3 ≤ x ∧ x ≤ 5 := by
  obtain ⟨t, a1, s1, e1, t1, t2, b1, c1⟩ := pick_ok l u 0 0 9 (by omega) (by omega) (by omega) (by omega)
  obtain ⟨t', a2, s2, e2, t3, t4, b2, c2⟩ := pick_ok l u a1 s1 14 (by omega) (by omega) (by omega) (by omega)
  obtain ⟨n, rfl⟩ := Int.eq_ofNat_of_zero_le t3
  obtain ⟨r, hr, r1, r2⟩ := b10list_l l u n [] (t - 3) a2 s2 (by simp; omega) (by simp) (by omega) (by omega) (by omega) (by omega)
  refine ⟨r, ?_, r1, r2⟩
  unfold spec_B10List.f spec_l00From.f
  simp only [Option.bind_some, e1, e2, show wrap64 (t - 3) = t - 3 from wid (by omega) (by omega)]
  exact hr
theorem nums_refl_l (l : List Int) (hl : l.length ≤ 1000) (d : Nat) : ∀ i : Nat, l.length - i = d → Ev (fun k => laws_b10Nums.l0 k l l (i : Int)) true := by
  induction d with
  | zero => intro i hd; exact ev_ret (fun k => by rw [laws_b10Nums.l0, if_neg (by omega)])
  | succ d ih =>
    intro i hd
    have e : wrap64 ((i : Int) + 1) = ((i + 1 : Nat) : Int) := by rw [wid (by omega) (by omega)]; omega
    exact Ev.step (fun k => by rw [laws_b10Nums.l0, if_pos (by omega), if_pos (by omega), if_pos (by omega), if_pos rfl, e]) (ih (i + 1) (by omega))
theorem nums_refl (l : List Int) (hl : l.length ≤ 1000) : Ev (fun k => laws_b10Nums.f k l l) true := by
  unfold laws_b10Nums.f
  simp only [if_pos rfl]
  exact nums_refl_l l hl l.length 0 (by omega)
theorem at_any (l : List Int) (u : ∀ x ∈ l, (Lit.int .u8 x).wf = true) (i n : Int) (h0 : 0 ≤ i) (h1 : i ≤ 1000) (hn : 1 ≤ n) : ∃ t, laws_b10At.f l i n = some t ∧ 0 ≤ t ∧ t < n := by
  by_cases h : n ≤ 1
  · exact ⟨0, by unfold laws_b10At.f; rw [if_pos h], by omega, by omega⟩
  · exact b10At_is l u i n h0 h1 (by omega)
theorem runs_end (l1 : List Int) (u1 : ∀ x ∈ l1, (Lit.int .u8 x).wf = true) (X : List (List Int)) (s : ByteArray) (h1 : 1 ≤ s.size) (h2 : s.size ≤ 1000) : Ev (fun k => laws_FnRuns.l0 k l1 X s (X.length : Int)) true := by
  obtain ⟨a, ea, a0, a1⟩ := at_any l1 u1 0 (s.size : Int) (by omega) (by omega) (by omega)
  obtain ⟨c, ec, c0, c1⟩ := at_any l1 u1 1 256 (by omega) (by omega) (by omega)
  obtain ⟨n, rfl⟩ := Int.eq_ofNat_of_zero_le a0
  have hn : n < s.data.toList.length := by rw [← ba_size]; omega
  have w1 : wrap64 ((n : Int) + 1) = ((n + 1 : Nat) : Int) := by rw [wid (by omega) (by omega)]; omega
  have wc : c % 256 = c := by omega
  have hsz := ba_size s
  have x1 : (s.extract 0 n).data.toList = s.data.toList.take n := by rw [Go.Lib.extract_data]; rfl
  have x2 : (s.extract (n + 1) s.size).data.toList = s.data.toList.drop (n + 1) := by
    rw [Go.Lib.extract_data, List.take_of_length_le (by rw [List.length_drop]; omega)]
  obtain ⟨B, hB⟩ : ∃ B, B = (s.extract 0 n) ++ (strOfNums [c]) ++ (s.extract (n + 1) s.size) := ⟨_, rfl⟩
  have xB : B.data.toList = s.data.toList.take n ++ UInt8.ofNat c.toNat :: s.data.toList.drop (n + 1) := by
    rw [hB, ba_app, ba_app, x1, x2, str1]
    simp
  have xs : s.data.toList = s.data.toList.take n ++ s.data.toList[n] :: s.data.toList.drop (n + 1) := by
    rw [← List.drop_eq_getElem_cons hn, List.take_append_drop]
  have zB : B.size = s.size := by
    rw [ba_size, xB, hsz]
    simp only [List.length_append, List.length_take, List.length_cons, List.length_drop]
    omega
  have z1 : (s.extract 0 n).size ≤ 1000 := by rw [ba_size, x1, List.length_take]; omega
  have z2 : (strOfNums [c]).size = 1 := rfl
  have z3 : (s.extract (n + 1) s.size).size ≤ 1000 := by rw [ba_size, x2, List.length_drop]; omega
  have z4 : ((s.extract 0 n) ++ (strOfNums [c])).size ≤ 1001 := by
    rw [ba_size, ba_app, List.length_append, ← ba_size, ← ba_size]; omega
  have eB := letters_l B (by omega) B.data.toList 0 1 (by rw [List.drop_zero]) (by rw [← ba_size]; omega) (by omega) (by omega)
  have eS := letters_l s (by omega) s.data.toList 0 1 (by rw [List.drop_zero]) (by rw [← ba_size]; omega) (by omega) (by omega)
  by_cases q : B.toList = s.toList
  · refine ev_ret (fun k => ?_)
    rw [laws_FnRuns.l0, if_neg (by omega), ea, Option.bind_some, ec, Option.bind_some, if_pos (by omega), if_pos (by omega), Option.bind_some, wc, Int.toNat_natCast, if_pos (by omega), w1, if_pos (by omega), if_pos (by omega), Int.toNat_natCast, if_pos (by omega), ← hB, if_pos q]
  · have hne : ((lett (hsh 1 B.data.toList)).toList != (lett (hsh 1 s.data.toList)).toList) = true := by
      rw [bne_iff_ne]
      intro h
      have g1 := hsh_rng B.data.toList 1 (by omega) (by omega)
      have g2 := hsh_rng s.data.toList 1 (by omega) (by omega)
      have e := lett_inj _ _ g1.1 g1.2 g2.1 g2.2 h
      rw [xB] at e
      have e2 : hsh 1 s.data.toList = hsh 1 (s.data.toList.take n ++ s.data.toList[n] :: s.data.toList.drop (n + 1)) := by rw [← xs]
      rw [e2] at e
      refine bent_diff _ _ _ _ (fun hq => q ?_) e
      rw [ByteArray.toList_eq, ByteArray.toList_eq, xB, hq, ← xs]
    refine Ev.step (f := fun k => (impl_CheckLetters.f k B).bind fun t250 => ((impl_CheckLetters.f k s).bind fun t251 => (some (t250.toList != t251.toList)))) (fun k => ?_) (Ev.bind (a := lett (hsh 1 B.data.toList)) (by unfold impl_CheckLetters.f; exact eB) (Ev.bind (a := lett (hsh 1 s.data.toList)) (by unfold impl_CheckLetters.f; exact eS) (ev_all fun k => by rw [hne])))
    rw [laws_FnRuns.l0, if_neg (by omega), ea, Option.bind_some, ec, Option.bind_some, if_pos (by omega), if_pos (by omega), Option.bind_some, wc, Int.toNat_natCast, if_pos (by omega), w1, if_pos (by omega), if_pos (by omega), Int.toNat_natCast, if_pos (by omega), ← hB, if_neg q]
theorem two_len : (0 : Int) < 2 ∧ (1 : Int) < 2 := ⟨by decide, by decide⟩
theorem runs_l0 (l1 : List Int) (u1 : ∀ x ∈ l1, (Lit.int .u8 x).wf = true) (X : List (List Int)) (hP : RunsP X) (hX : X.length ≤ 1000) (s : ByteArray) (h1 : 1 ≤ s.size) (h2 : s.size ≤ 1000) (d : Nat) : ∀ i : Nat, X.length - i = d → i ≤ X.length → Ev (fun k => laws_FnRuns.l0 k l1 X s (i : Int)) true := by
  induction d with
  | zero =>
    intro i hd hi
    obtain rfl : i = X.length := by omega
    exact runs_end l1 u1 X s h1 h2
  | succ d ih =>
    intro i hd hi
    have hi2 : i < X.length := by omega
    have hx := ih (i + 1) (by omega) (by omega)
    have g1 : (i : Int) < (X.length : Int) := by omega
    have g2 : (0 : Int) ≤ (i : Int) := by omega
    have e : wrap64 ((i : Int) + 1) = ((i + 1 : Nat) : Int) := by rw [wid (by omega) (by omega)]; omega
    obtain ⟨a, n, hr, hn⟩ := hP.1 X[i] (List.getElem_mem hi2)
    have g3 : ¬ n < 1 := Int.not_lt.2 hn
    have y2 : X.getD i [] = [a, n] := by rw [List.getD_eq_getElem?_getD, List.getElem?_eq_getElem hi2, hr]; rfl
    have e0 : rd_L2 X (i : Int) = [a, n] := by unfold rd_L2; rw [Int.toNat_natCast]; exact y2
    by_cases h0 : 0 < i
    · have hi3 : i - 1 < X.length := by omega
      have j1 : (i : Int) > 0 := by omega
      have j2 : (0 : Int) ≤ ((i - 1 : Nat) : Int) := by omega
      have j3 : ((i - 1 : Nat) : Int) < (X.length : Int) := by omega
      have j4 : i - 1 + 1 = i := by omega
      have w : wrap64 ((i : Int) - 1) = ((i - 1 : Nat) : Int) := by clear e; rw [wid (by omega) (by omega)]; omega
      have h2 := hP.2 (i - 1) (by rw [j4]; exact hi2)
      obtain ⟨a', n', hr', hn'⟩ := hP.1 X[i - 1] (List.getElem_mem hi3)
      have y1 : X.getD (i - 1) [] = [a', n'] := by rw [List.getD_eq_getElem?_getD, List.getElem?_eq_getElem hi3, hr']; rfl
      have e1 : rd_L2 X ((i - 1 : Nat) : Int) = [a', n'] := by unfold rd_L2; rw [Int.toNat_natCast]; exact y1
      rw [j4, y1, y2] at h2
      refine Ev.step (f := fun k => laws_FnRuns.l0 k l1 X s ((i + 1 : Nat) : Int)) (fun k => ?_) hx
      rw [laws_FnRuns.l0, if_pos g1, if_pos g2, e0, if_pos (show (([a, n] : List Int).length : Int) = 2 from rfl), if_pos (show (1 : Int) < (([a, n] : List Int).length : Int) from two_len.2), show rd [a, n] 1 = n from rfl, if_neg g3, if_pos j1, if_pos (show (0 : Int) < (([a, n] : List Int).length : Int) from two_len.1), w, if_pos j2, if_pos j3, e1, if_pos (show (0 : Int) < (([a', n'] : List Int).length : Int) from two_len.1), if_neg (fun hq => h2 hq.symm), e]
    · have j1 : ¬ (i : Int) > 0 := by omega
      refine Ev.step (f := fun k => laws_FnRuns.l0 k l1 X s ((i + 1 : Nat) : Int)) (fun k => ?_) hx
      rw [laws_FnRuns.l0, if_pos g1, if_pos g2, e0, if_pos (show (([a, n] : List Int).length : Int) = 2 from rfl), if_pos (show (1 : Int) < (([a, n] : List Int).length : Int) from two_len.2), show rd [a, n] 1 = n from rfl, if_neg g3, if_neg j1, e]
theorem FnRuns : laws_FnRuns.Pure := by
  intro l0 l1 hl0 hl1
  by_cases hlong : longOf l0 l1 = true
  · exact ⟨0, by unfold laws_FnRuns.f; rw [b10Long_is, Option.bind_some, if_pos hlong]⟩
  obtain ⟨l, el, n1, n2⟩ := b10list l0 hl0.2
  have hb : ∀ x ∈ l, -1000000000 ≤ x ∧ x ≤ 1000000000 := fun x hx => by have := n2 x hx; omega
  have hL : isL l = true := by
    unfold isL
    rw [Bool.and_eq_true, decide_eq_true_eq, List.all_eq_true]
    exact ⟨fun x hx => by have := hb x hx; rw [Bool.and_eq_true, decide_eq_true_eq, decide_eq_true_eq]; exact this, by omega⟩
  have e1 : Ev (fun k => impl_RunsOf.f k l) (runsOf l, true) := by
    unfold impl_RunsOf.f
    simp only [impl_list, hL, Option.bind_some, if_pos rfl]
    exact impl_runs l (by omega)
  have hrl := runsOf_len l
  have e2 : Ev (fun k => impl_FromRuns.f k (runsOf l)) (l, true) := by
    have h := impl_from (runsOf l) (by omega) (runsOf l).length 0 [] (by omega) (by omega) (by simp) (by omega)
    rw [from_runs l hL] at h
    exact h
  have e3 : Ev (fun k => impl_ListText.f k l) (listT l, true) := by
    unfold impl_ListText.f
    simp only [impl_list, hL, Option.bind_some, if_pos rfl]
    exact Ev.bind (impl_listText l hb (by omega)) (Ev.now _)
  have hsz : 1 ≤ (listT l).size ∧ (listT l).size ≤ 1000 := by
    cases l with
    | nil => exact ⟨by show 1 ≤ 4; omega, by show 4 ≤ 1000; omega⟩
    | cons x r =>
      have e : (listT (x :: r)).data.toList = Go.Lib.join ((x :: r).map Go.Lib.itoa) [32] := by unfold listT; rw [if_neg (by simp)]
      rw [ba_size, e]
      have h1 := listT_len (x :: r) hb (by omega)
      have h2 := join_ne (Go.Lib.itoa x) (r.map Go.Lib.itoa) [32] (itoa_ne x)
      rw [← List.map_cons] at h2
      have := List.length_pos_iff.2 h2
      omega
  have e4 : Ev (fun k => impl_ReadList.f k (listT l)) (l, true) := by
    have h := impl_rl (listT l) (by omega)
    rw [list_back l hb (by omega)] at h
    exact h
  have e5 := nums_refl l (by omega)
  have e6 := runs_l0 l1 hl1.2 (runsOf l) (runsOf_P l) (by omega) (listT l) hsz.1 hsz.2 (runsOf l).length 0 (by omega) (by omega)
  refine Ev.rounds (r := true) ?_
  unfold laws_FnRuns.f
  simp only [b10Long_is, Option.bind_some, if_neg hlong]
  refine Ev.bind el (Ev.bind e1 (Ev.bind e2 (Ev.bind e3 (Ev.bind e4 ?_))))
  simp only [if_pos rfl]
  refine Ev.bind e5 ?_
  simp only [if_pos rfl]
  refine Ev.bind e5 ?_
  simp only [if_pos rfl]
  have hz : (((listT l).size : Int) == 0) = false := by rw [beq_eq_false_iff_ne]; omega
  refine Ev.step (f := fun k => laws_FnRuns.l0 k l1 (runsOf l) (listT l) 0) (fun k => ?_) e6
  show laws_FnRuns.j0 (k + 1) l1 (runsOf l) (listT l) (((listT l).size : Int) == 0) = _
  rw [hz, laws_FnRuns.j0, if_neg (by decide)]

end Go.Proofs.YtbfcnacllonnbaaDoor.Pure
