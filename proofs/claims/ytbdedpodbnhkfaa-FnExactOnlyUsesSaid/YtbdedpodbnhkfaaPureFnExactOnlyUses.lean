/- The program's OnlyUses returns what the reference's returns, for all lists, in new memory. Conditions: those of the row alone. -/
import Derived.Test.YtbdedpodbnhkfaaPFnExactOnlyUsesx4
namespace Go.Proofs.Ytbdedpodbnhkfaa.Pure
open Go.RowKit Go.Proofs.Ytbdedpodbnhkfaa.PFnExactOnlyUses Go.Proofs.YtbdedpodbnhkfaaW.PrintWords Go.Proofs.YtbdedpodbnhkfaaW.PrintLast Go.Proofs.YtbdedpodbnhkfaaW.PrintMore
set_option linter.unusedVariables false
set_option linter.unusedSimpArgs false

theorem wid {x : Int} (h1 : -9223372036854775808 ≤ x) (h2 : x < 9223372036854775808) : wrap64 x = x := by unfold wrap64; omega
theorem i64_bd {x : Int} (h : (Lit.int .i64 x).wf = true) : -9223372036854775808 ≤ x ∧ x ≤ 9223372036854775807 := by
  simp only [Lit.wf, IntKind.min, IntKind.max, IntKind.signed, IntKind.bits, Bool.and_eq_true, decide_eq_true_eq, if_true] at h
  omega
/-- A loop's step, its answer known at once. -/
theorem ev_ret {α : Type} {g : Nat → Option α} {r : α} (h : ∀ k, g (k + 1) = some r) : Ev g r := Ev.step (f := fun _ => some r) h (Ev.now r)
theorem ev_all {α : Type} {g : Nat → Option α} {r : α} (h : ∀ k, g k = some r) : Ev g r := ⟨0, fun k _ => h k⟩

theorem getD_set (xs : List Int) (i j : Nat) (v : Int) (hi : i < xs.length) : (xs.set i v).getD j 0 = if i = j then v else xs.getD j 0 := by
  rw [List.getD_eq_getElem?_getD, List.getElem?_set]
  by_cases e : i = j
  · subst e; rw [if_pos rfl, if_pos hi, if_pos rfl]; rfl
  · rw [if_neg e, if_neg e, List.getD_eq_getElem?_getD]
theorem ext_getD {xs ys : List Int} (h : xs.length = ys.length) (he : ∀ j, j < xs.length → xs.getD j 0 = ys.getD j 0) : xs = ys := by
  apply List.ext_getElem h
  intro j h1 h2
  have := he j h1
  rwa [List.getD_eq_getElem?_getD, List.getD_eq_getElem?_getD, List.getElem?_eq_getElem h1, List.getElem?_eq_getElem h2] at this
theorem rd_nat (xs : List Int) (i : Nat) : rd xs (i : Int) = xs.getD i 0 := by unfold rd; rw [Int.toNat_natCast]
theorem rd_mem (xs : List Int) (i : Nat) (h : i < xs.length) : rd xs (i : Int) ∈ xs := by
  rw [rd_nat, List.getD_eq_getElem?_getD, List.getElem?_eq_getElem h]
  exact List.getElem_mem _
theorem take_snoc (xs : List Int) (i : Nat) (h : i < xs.length) : xs.take (i + 1) = xs.take i ++ [rd xs (i : Int)] := by
  rw [List.take_succ_eq_append_getElem h, rd_nat, List.getD_eq_getElem?_getD, List.getElem?_eq_getElem h]
  rfl
theorem drop_cons (xs : List Int) (i : Nat) (h : i < xs.length) : xs.drop i = rd xs (i : Int) :: xs.drop (i + 1) := by
  rw [List.drop_eq_getElem_cons h, rd_nat, List.getD_eq_getElem?_getD, List.getElem?_eq_getElem h]
  rfl

/-- What both ask of uses. -/
def usesOk (l : List Int) : Bool := decide (l.length ≤ 60) && l.all (fun x => decide (0 ≤ x) && decide (x ≤ 63))
theorem usesOk_len {l : List Int} (h : usesOk l = true) : l.length ≤ 60 := by
  unfold usesOk at h
  rw [Bool.and_eq_true] at h
  exact of_decide_eq_true h.1
theorem usesOk_mem {l : List Int} (h : usesOk l = true) {x : Int} (hx : x ∈ l) : 0 ≤ x ∧ x ≤ 63 := by
  unfold usesOk at h
  rw [Bool.and_eq_true, List.all_eq_true] at h
  have := h.2 x hx
  rw [Bool.and_eq_true] at this
  exact ⟨of_decide_eq_true this.1, of_decide_eq_true this.2⟩
theorem impl_uses (l : List Int) : impl_ValidUses.f l = some (usesOk l) := by
  unfold impl_ValidUses.f usesOk impl_allIn.f
  by_cases h : l.length ≤ 60
  · rw [if_pos (by omega), decide_eq_true h, Bool.true_and, Option.bind_some]
  · rw [if_neg (by omega), decide_eq_false h, Bool.false_and]

theorem spec_addr (x : Int) : spec_l02Address.f x = some (decide (0 ≤ x) && decide (x ≤ 63)) := by
  unfold spec_l02Address.f spec_l00In.f
  by_cases h : 0 ≤ x
  · rw [if_pos h, decide_eq_true h, Bool.true_and, Option.bind_some]
  · rw [if_neg h, decide_eq_false h, Bool.false_and, Option.bind_some]
theorem spec_uses_l (l : List Int) (hl : l.length ≤ 140737488355328) (d : Nat) : ∀ (i : Nat), l.length - i = d → i ≤ l.length → Ev (fun k => spec_l02Uses.l0 k l (i : Int)) (decide (l.length ≤ 60) && (l.drop i).all (fun x => decide (0 ≤ x) && decide (x ≤ 63))) := by
  induction d with
  | zero =>
    intro i hd hi
    rw [List.drop_eq_nil_of_le (by omega), List.all_nil, Bool.and_true]
    refine ev_ret (fun k => ?_)
    rw [spec_l02Uses.l0, if_neg (by omega)]
    by_cases h : l.length ≤ 60
    · rw [decide_eq_true h, decide_eq_true (by omega)]
    · rw [decide_eq_false h, decide_eq_false (by omega)]
  | succ d ih =>
    intro i hd hi
    rw [drop_cons l i (by omega), List.all_cons]
    by_cases h : (decide (0 ≤ rd l (i : Int)) && decide (rd l (i : Int) ≤ 63)) = true
    · rw [h, Bool.true_and]
      refine Ev.step (fun k => ?_) (ih (i + 1) (by omega) (by omega))
      rw [spec_l02Uses.l0, if_pos (by omega), if_pos (by omega), spec_addr, Option.bind_some, if_pos h, wid (x := (i : Int) + 1) (by omega) (by omega), show ((i + 1 : Nat) : Int) = (i : Int) + 1 by omega]
    · rw [Bool.eq_false_iff.mpr h, Bool.false_and, Bool.and_false]
      refine ev_ret (fun k => ?_)
      rw [spec_l02Uses.l0, if_pos (by omega), if_pos (by omega), spec_addr, Option.bind_some, if_neg h]
theorem spec_uses (l : List Int) (hl : l.length ≤ 140737488355328) : Ev (fun k => spec_l02Uses.f k l) (usesOk l) := spec_uses_l l hl l.length 0 (by omega) (by omega)

/-- The index of the first x, counted from i; -1 if there is none. -/
def idxFrom : List Int → Int → Nat → Int
  | [], _, _ => -1
  | y :: r, x, i => if y = x then (i : Int) else idxFrom r x (i + 1)
theorem idxFrom_range (l : List Int) (x : Int) : ∀ i, idxFrom l x i = -1 ∨ ((i : Int) ≤ idxFrom l x i ∧ idxFrom l x i < (i : Int) + (l.length : Int)) := by
  induction l with
  | nil => intro i; exact .inl rfl
  | cons y r ih =>
    intro i
    rw [idxFrom]
    by_cases h : y = x
    · rw [if_pos h]; right; simp; omega
    · rw [if_neg h]
      rcases ih (i + 1) with e | e
      · exact .inl e
      · right; simp; omega
theorem idxFrom_shift (l : List Int) (x : Int) (m : Nat) : idxFrom l x m = if idxFrom l x 0 < 0 then -1 else (m : Int) + idxFrom l x 0 := by
  have gen : ∀ (l : List Int) (i : Nat), idxFrom l x (m + i) = if idxFrom l x i < 0 then -1 else (m : Int) + idxFrom l x i := by
    intro l
    induction l with
    | nil => intro i; rfl
    | cons y r ih =>
      intro i
      rw [idxFrom, idxFrom]
      by_cases h : y = x
      · rw [if_pos h, if_pos h, if_neg (by omega)]; omega
      · rw [if_neg h, if_neg h, Nat.add_assoc, ih (i + 1)]
  exact gen l 0
theorem index_l (l : List Int) (x : Int) (hl : l.length ≤ 140737488355328) (d : Nat) : ∀ (j : Nat), l.length - j = d → j ≤ l.length → Ev (fun k => slices_Index_int64_int64.l0 k l x (l.length : Int) (j : Int)) (idxFrom (l.drop j) x j) := by
  induction d with
  | zero =>
    intro j hd hj
    rw [List.drop_eq_nil_of_le (by omega), idxFrom]
    exact ev_ret (fun k => by rw [slices_Index_int64_int64.l0, if_neg (by omega)])
  | succ d ih =>
    intro j hd hj
    rw [drop_cons l j (by omega), idxFrom]
    by_cases h : rd l (j : Int) = x
    · rw [if_pos h]
      exact ev_ret (fun k => by rw [slices_Index_int64_int64.l0, if_pos (by omega), if_pos (by omega), if_pos (by omega), if_pos h.symm])
    · rw [if_neg h]
      refine Ev.step (fun k => ?_) (ih (j + 1) (by omega) (by omega))
      rw [slices_Index_int64_int64.l0, if_pos (by omega), if_pos (by omega), if_pos (by omega), if_neg (fun e => h e.symm), wid (x := (j : Int) + 1) (by omega) (by omega), show ((j + 1 : Nat) : Int) = (j : Int) + 1 by omega]
theorem index_is (l : List Int) (x : Int) (hl : l.length ≤ 140737488355328) : Ev (fun k => slices_Index_int64_int64.f k l x) (idxFrom l x 0) := index_l l x hl l.length 0 (by omega) (by omega)

theorem toInts_l (l : List Int) (hl : l.length ≤ 140737488355328) (d : Nat) : ∀ (i : Nat) (xs : List Int), xs.length = l.length → (∀ j, j < i → xs.getD j 0 = l.getD j 0) → l.length - i = d → i ≤ l.length →
    Ev (fun k => laws_toInt64S.l0 k l xs (i : Int)) l := by
  induction d with
  | zero =>
    intro i xs hx h hd hi
    have e : xs = l := ext_getD hx (fun j hj => h j (by omega))
    subst e
    exact ev_ret (fun k => by rw [laws_toInt64S.l0, if_neg (by omega)])
  | succ d ih =>
    intro i xs hx h hd hi
    refine Ev.step (fun k => ?_) (ih (i + 1) (xs.set i (rd l (i : Int))) (by rw [List.length_set, hx]) (fun j hj => ?_) (by omega) (by omega))
    · rw [laws_toInt64S.l0, if_pos (by omega), if_pos (by omega), if_pos (by omega), Int.toNat_natCast, wid (x := (i : Int) + 1) (by omega) (by omega), show ((i + 1 : Nat) : Int) = (i : Int) + 1 by omega]
    · rw [getD_set _ _ _ _ (by omega)]
      by_cases e : i = j
      · subst e; rw [if_pos rfl, rd_nat]
      · rw [if_neg e]; exact h j (by omega)
theorem toInts (l : List Int) (hl : l.length ≤ 35184372088832) : Ev (fun k => laws_toInt64S.f k l) l := by
  unfold laws_toInt64S.f
  simp only [if_pos (show (0 : Int) ≤ (l.length : Int) by omega), Int.toNat_natCast, if_pos hl]
  exact toInts_l l (by omega) l.length 0 _ (by rw [List.length_replicate]) (fun j hj => by omega) (by omega) (by omega)

/-- A list is equal to itself. -/
theorem eqs_l (a : List Int) (ha : a.length ≤ 140737488355328) (d : Nat) : ∀ (i : Int), 0 ≤ i → (a.length : Int) - i = d → Ev (fun k => laws_eqInt64S.l0 k a a i) true := by
  induction d with
  | zero => intro i h0 hd; exact ev_ret (fun k => by rw [laws_eqInt64S.l0, if_neg (by omega)])
  | succ d ih =>
    intro i h0 hd
    refine Ev.step (fun k => ?_) (ih (i + 1) (by omega) (by omega))
    rw [laws_eqInt64S.l0, if_pos (by omega), if_pos h0, if_pos (by omega), if_pos rfl, wid (x := i + 1) (by omega) (by omega)]
theorem eqs (a : List Int) (ha : a.length ≤ 140737488355328) : Ev (fun k => laws_eqInt64S.f k a a) true := by
  unfold laws_eqInt64S.f
  simp only [if_true]
  exact eqs_l a ha a.length 0 (by omega) (by omega)

/-- A list whose numbers go up one by one from a on, as far as index i. -/
def Upto (a : Int) (n : Nat) (xs : List Int) (i : Nat) : Prop := xs.length = n ∧ ∀ j, j < i → xs.getD j 0 = a + (j : Int)
theorem upto_set {a : Int} {n i : Nat} {xs : List Int} (h : Upto a n xs i) (hi : i < n) : Upto a n (xs.set i (a + (i : Int))) (i + 1) := by
  refine ⟨by rw [List.length_set]; exact h.1, fun j hj => ?_⟩
  have hl := h.1
  rw [List.getD_eq_getElem?_getD, List.getElem?_set]
  by_cases e : i = j
  · subst e
    rw [if_pos rfl, if_pos (by omega)]
    rfl
  · rw [if_neg e, ← List.getD_eq_getElem?_getD]
    exact h.2 j (by omega)
theorem mark_l (a : Int) (n : Nat) (h1 : 0 ≤ a) (h2 : a ≤ 4611686018427387904) (hn : n ≤ 140737488355328) (d : Nat) : ∀ (i : Nat) (xs : List Int), Upto a n xs i → n - i = d → i ≤ n →
    ∃ ys, Ev (fun k => laws_markInt64S.l0 k xs (a + (i : Int)) (i : Int)) (a + (n : Int), ys) ∧ Upto a n ys n := by
  induction d with
  | zero =>
    intro i xs h hd hi
    have e : i = n := by omega
    subst e
    have hl := h.1
    exact ⟨xs, ev_ret (fun k => by rw [laws_markInt64S.l0, if_neg (by omega)]), h⟩
  | succ d ih =>
    intro i xs h hd hi
    have hl := h.1
    obtain ⟨ys, e, hy⟩ := ih (i + 1) _ (upto_set h (by omega)) (by omega) (by omega)
    refine ⟨ys, Ev.step (fun k => ?_) e, hy⟩
    rw [laws_markInt64S.l0, if_pos (by omega), if_pos (by omega), wid (x := a + (i : Int) + 1) (by omega) (by omega), wid (x := (i : Int) + 1) (by omega) (by omega), Int.toNat_natCast]
    rw [show a + ((i + 1 : Nat) : Int) = a + (i : Int) + 1 by omega, show ((i + 1 : Nat) : Int) = (i : Int) + 1 by omega]
theorem held_l (a : Int) (n : Nat) (ys : List Int) (h1 : 0 ≤ a) (h2 : a ≤ 4611686018427387904) (hn : n ≤ 140737488355328) (h : Upto a n ys n) (d : Nat) : ∀ (i : Nat), n - i = d → i ≤ n →
    Ev (fun k => laws_heldInt64S.l0 k ys (a + (i : Int)) (i : Int)) (a + (n : Int)) := by
  have hl := h.1
  induction d with
  | zero =>
    intro i hd hi
    have e : i = n := by omega
    subst e
    exact ev_ret (fun k => by rw [laws_heldInt64S.l0, if_neg (by omega)])
  | succ d ih =>
    intro i hd hi
    refine Ev.step (fun k => ?_) (ih (i + 1) (by omega) (by omega))
    have hr : rd ys (i : Int) = a + (i : Int) := by unfold rd; rw [Int.toNat_natCast]; exact h.2 i (by omega)
    rw [laws_heldInt64S.l0, if_pos (by omega), if_pos (by omega), if_pos hr, wid (x := a + (i : Int) + 1) (by omega) (by omega), wid (x := (i : Int) + 1) (by omega) (by omega)]
    rw [show a + ((i + 1 : Nat) : Int) = a + (i : Int) + 1 by omega, show ((i + 1 : Nat) : Int) = (i : Int) + 1 by omega]
/-- What is marked is held. -/
theorem mark_held (a : Int) (xs : List Int) (h1 : 0 ≤ a) (h2 : a ≤ 4611686018427387904) (hn : xs.length ≤ 140737488355328) :
    ∃ ys, Ev (fun k => laws_markInt64S.f k xs a) (a + (xs.length : Int), ys) ∧ Ev (fun k => laws_heldInt64S.f k ys a) (a + (xs.length : Int)) := by
  obtain ⟨ys, e, hy⟩ := mark_l a xs.length h1 h2 hn xs.length 0 xs ⟨rfl, fun j hj => by omega⟩ (by omega) (by omega)
  have e2 := held_l a xs.length ys h1 h2 hn hy xs.length 0 (by omega) (by omega)
  refine ⟨ys, ?_, ?_⟩
  · simpa [laws_markInt64S.f] using e
  · simpa [laws_heldInt64S.f] using e2

/-- Numbers from lo to hi that rise. -/
def risesOk (l : List Int) : Bool := l.all (fun x => decide (0 ≤ x) && decide (x ≤ 63)) && decide (∀ i, i < l.length → 0 < i → l.getD (i - 1) 0 < l.getD i 0)
def keep (l s : List Int) : List Int := l.filter (fun x => decide (idxFrom s x 0 ≥ 0))
/-- Rising from place i on. -/
def risFrom (l : List Int) (i : Nat) : Bool := decide (∀ j, j < l.length → i ≤ j → 0 < j → l.getD (j - 1) 0 < l.getD j 0)
theorem risFrom_end (l : List Int) (i : Nat) (h : l.length ≤ i) : risFrom l i = true := decide_eq_true (fun j h1 h2 _ => by omega)
theorem risFrom_step (l : List Int) (i : Nat) (hi : i < l.length) (h0 : 0 < i) : risFrom l i = (decide (l.getD (i - 1) 0 < l.getD i 0) && risFrom l (i + 1)) := by
  unfold risFrom
  rw [← Bool.decide_and]
  congr 1
  apply propext
  constructor
  · intro h; exact ⟨h i hi (Nat.le_refl _) h0, fun j h1 h2 h3 => h j h1 (by omega) h3⟩
  · intro h j h1 h2 h3
    by_cases e : j = i
    · subst e; exact h.1
    · exact h.2 j h1 (by omega) h3
theorem risFrom_zero (l : List Int) : risFrom l 0 = risFrom l 1 := by
  unfold risFrom
  congr 1
  apply propext
  exact ⟨fun h j h1 h2 h3 => h j h1 (by omega) h3, fun h j h1 h2 h3 => h j h1 (by omega) h3⟩
theorem spec_in (x : Int) : spec_l00In.f x 0 63 = some (decide (0 ≤ x) && decide (x ≤ 63)) := by
  unfold spec_l00In.f
  by_cases h : 0 ≤ x
  · rw [if_pos h, decide_eq_true h, Bool.true_and]
  · rw [if_neg h, decide_eq_false h, Bool.false_and]
theorem spec_rises_l (l : List Int) (hl : l.length ≤ 140737488355328) (d : Nat) : ∀ (i : Nat), l.length - i = d → i ≤ l.length → Ev (fun k => spec_l00Rises.l0 k l 0 63 (i : Int)) ((l.drop i).all (fun x => decide (0 ≤ x) && decide (x ≤ 63)) && risFrom l i) := by
  induction d with
  | zero =>
    intro i hd hi
    rw [List.drop_eq_nil_of_le (by omega), List.all_nil, Bool.true_and, risFrom_end l i (by omega)]
    exact ev_ret (fun k => by rw [spec_l00Rises.l0, if_neg (by omega)])
  | succ d ih =>
    intro i hd hi
    rw [drop_cons l i (by omega), List.all_cons]
    by_cases h : (decide (0 ≤ rd l (i : Int)) && decide (rd l (i : Int) ≤ 63)) = true
    · rw [h, Bool.true_and]
      by_cases h0 : 0 < i
      · rw [risFrom_step l i (by omega) h0]
        have w1 : wrap64 ((i : Int) - 1) = ((i - 1 : Nat) : Int) := by rw [wid (by omega) (by omega)]; omega
        by_cases g : l.getD (i - 1) 0 < l.getD i 0
        · rw [decide_eq_true g, Bool.true_and]
          refine Ev.step (fun k => ?_) (ih (i + 1) (by omega) (by omega))
          rw [spec_l00Rises.l0, if_pos (by omega), if_pos (by omega), spec_in, Option.bind_some, if_pos h, if_pos (by omega), w1, if_pos (by omega), if_pos (by omega), if_neg (by rw [rd_nat, rd_nat]; omega), wid (x := (i : Int) + 1) (by omega) (by omega), show ((i + 1 : Nat) : Int) = (i : Int) + 1 by omega]
        · rw [decide_eq_false g, Bool.false_and, Bool.and_false]
          refine ev_ret (fun k => ?_)
          rw [spec_l00Rises.l0, if_pos (by omega), if_pos (by omega), spec_in, Option.bind_some, if_pos h, if_pos (by omega), w1, if_pos (by omega), if_pos (by omega), if_pos (by rw [rd_nat, rd_nat]; omega)]
      · have e : i = 0 := by omega
        subst e
        rw [risFrom_zero]
        refine Ev.step (fun k => ?_) (ih 1 (by omega) (by omega))
        rw [spec_l00Rises.l0, if_pos (by omega), if_pos (by omega), spec_in, Option.bind_some, if_pos h, if_neg (by omega), wid (x := ((0 : Nat) : Int) + 1) (by omega) (by omega)]
        rfl
    · rw [Bool.eq_false_iff.mpr h, Bool.false_and, Bool.false_and]
      refine ev_ret (fun k => ?_)
      rw [spec_l00Rises.l0, if_pos (by omega), if_pos (by omega), spec_in, Option.bind_some, if_neg h]
theorem impl_rises_l (l : List Int) (hl : l.length ≤ 140737488355328) (d : Nat) : ∀ (i : Nat), 0 < i → (i ≤ l.length ∨ i = 1) → l.length - i = d → Ev (fun k => impl_isIncreasing.l0 k l (i : Int)) (risFrom l i) := by
  induction d with
  | zero =>
    intro i h0 hi hd
    rw [risFrom_end l i (by omega)]
    exact ev_ret (fun k => by rw [impl_isIncreasing.l0, if_neg (by omega)])
  | succ d ih =>
    intro i h0 hi hd
    rw [risFrom_step l i (by omega) h0]
    have w1 : wrap64 ((i : Int) - 1) = ((i - 1 : Nat) : Int) := by rw [wid (by omega) (by omega)]; omega
    by_cases g : l.getD (i - 1) 0 < l.getD i 0
    · rw [decide_eq_true g, Bool.true_and]
      refine Ev.step (fun k => ?_) (ih (i + 1) (by omega) (by omega) (by omega))
      rw [impl_isIncreasing.l0, if_pos (by omega), w1, if_pos (by omega), if_pos (by omega), if_pos (by omega), if_neg (by rw [rd_nat, rd_nat]; omega), wid (x := (i : Int) + 1) (by omega) (by omega), show ((i + 1 : Nat) : Int) = (i : Int) + 1 by omega]
    · rw [decide_eq_false g, Bool.false_and]
      refine ev_ret (fun k => ?_)
      rw [impl_isIncreasing.l0, if_pos (by omega), w1, if_pos (by omega), if_pos (by omega), if_pos (by omega), if_pos (by rw [rd_nat, rd_nat]; omega)]
theorem spec_has_l (s : List Int) (x : Int) (hl : s.length ≤ 140737488355328) (d : Nat) : ∀ (j : Nat), s.length - j = d → j ≤ s.length → Ev (fun k => spec_l00Has.l0 k s x (j : Int)) (decide (idxFrom (s.drop j) x j ≥ 0)) := by
  induction d with
  | zero =>
    intro j hd hj
    rw [List.drop_eq_nil_of_le (by omega), idxFrom]
    exact ev_ret (fun k => by rw [spec_l00Has.l0, if_neg (by omega)]; rfl)
  | succ d ih =>
    intro j hd hj
    rw [drop_cons s j (by omega), idxFrom]
    by_cases h : rd s (j : Int) = x
    · rw [if_pos h, decide_eq_true (by omega)]
      exact ev_ret (fun k => by rw [spec_l00Has.l0, if_pos (by omega), if_pos (by omega), if_pos h])
    · rw [if_neg h]
      refine Ev.step (fun k => ?_) (ih (j + 1) (by omega) (by omega))
      rw [spec_l00Has.l0, if_pos (by omega), if_pos (by omega), if_neg h, wid (x := (j : Int) + 1) (by omega) (by omega), show ((j + 1 : Nat) : Int) = (j : Int) + 1 by omega]
theorem spec_has (s : List Int) (x : Int) (hl : s.length ≤ 140737488355328) : Ev (fun k => spec_l00Has.f k s x) (decide (idxFrom s x 0 ≥ 0)) := spec_has_l s x hl s.length 0 (by omega) (by omega)
theorem impl_has (s : List Int) (x : Int) (hl : s.length ≤ 140737488355328) : Ev (fun k => slices_Contains_int64_int64.f k s x) (decide (idxFrom s x 0 ≥ 0)) := by
  unfold slices_Contains_int64_int64.f
  exact Ev.bind (index_is _ _ (by omega)) (Ev.now _)
theorem spec_only_l (l s : List Int) (hl : l.length ≤ 60) (hs : s.length ≤ 140737488355328) (d : Nat) : ∀ (i : Nat) (acc : List Int), l.length - i = d → i ≤ l.length → acc.length ≤ i → Ev (fun k => spec_l02Only.l0 k l s acc (i : Int)) (acc ++ keep (l.drop i) s) := by
  induction d with
  | zero =>
    intro i acc hd hi ha
    rw [List.drop_eq_nil_of_le (by omega), keep, List.filter_nil, List.append_nil]
    exact ev_ret (fun k => by rw [spec_l02Only.l0, if_neg (by omega)])
  | succ d ih =>
    intro i acc hd hi ha
    rw [drop_cons l i (by omega), keep, List.filter_cons]
    refine Ev.step (fun k => by rw [spec_l02Only.l0, if_pos (by omega), if_pos (by omega), wid (x := (i : Int) + 1) (by omega) (by omega)]) (Ev.bind (spec_has s _ hs) ?_)
    by_cases h : decide (idxFrom s (rd l (i : Int)) 0 ≥ 0) = true
    · simp only [if_pos h, if_pos (show acc.length < 17592186044416 by omega)]
      have hx := ih (i + 1) (acc ++ [rd l (i : Int)]) (by omega) (by omega) (by simp; omega)
      rw [show ((i + 1 : Nat) : Int) = (i : Int) + 1 by omega, ← List.append_cons] at hx
      exact hx
    · simp only [if_neg h]
      have hx := ih (i + 1) acc (by omega) (by omega) (by omega)
      rw [show ((i + 1 : Nat) : Int) = (i : Int) + 1 by omega] at hx
      exact hx
theorem impl_only_l (l s : List Int) (hl : l.length ≤ 60) (hs : s.length ≤ 140737488355328) (d : Nat) : ∀ (i : Nat) (acc : List Int), l.length - i = d → i ≤ l.length → acc.length ≤ i → Ev (fun k => impl_OnlyUses.l0 k s acc l (l.length : Int) (i : Int)) (acc ++ keep (l.drop i) s, true) := by
  induction d with
  | zero =>
    intro i acc hd hi ha
    rw [List.drop_eq_nil_of_le (by omega), keep, List.filter_nil, List.append_nil]
    exact ev_ret (fun k => by rw [impl_OnlyUses.l0, if_neg (by omega)])
  | succ d ih =>
    intro i acc hd hi ha
    rw [drop_cons l i (by omega), keep, List.filter_cons]
    refine Ev.step (fun k => by rw [impl_OnlyUses.l0, if_pos (by omega), if_pos (by omega), if_pos (by omega), wid (x := (i : Int) + 1) (by omega) (by omega)]) (Ev.bind (impl_has s _ hs) ?_)
    by_cases h : decide (idxFrom s (rd l (i : Int)) 0 ≥ 0) = true
    · simp only [if_pos h, if_pos (show acc.length < 17592186044416 by omega)]
      have hx := ih (i + 1) (acc ++ [rd l (i : Int)]) (by omega) (by omega) (by simp; omega)
      rw [show ((i + 1 : Nat) : Int) = (i : Int) + 1 by omega, ← List.append_cons] at hx
      exact hx
    · simp only [if_neg h]
      have hx := ih (i + 1) acc (by omega) (by omega) (by omega)
      rw [show ((i + 1 : Nat) : Int) = (i : Int) + 1 by omega] at hx
      exact hx
theorem both (l s : List Int) (hl : l.length ≤ 1048576) (hs : s.length ≤ 1048576) : ∃ r, Ev (fun k => spec_OnlyUses.f k l s) r ∧ Ev (fun k => impl_OnlyUses.f k l s) r ∧ r.1.length ≤ 1000000 := by
  have bad : ∀ k, impl_OnlyUses.j0 (k + 1) l s true = some ([], false) := fun k => by rw [impl_OnlyUses.j0, if_pos rfl]
  unfold spec_OnlyUses.f impl_OnlyUses.f impl_allIn.f
  simp only [impl_uses, Option.bind_some]
  by_cases h : usesOk l = true
  · have hn := usesOk_len h
    have er := spec_rises_l s (by omega) s.length 0 (by omega) (by omega)
    rw [List.drop_zero, risFrom_zero] at er
    have ei := impl_rises_l s (by omega) (s.length - 1) 1 (by omega) (by omega) rfl
    by_cases g : s.all (fun x => decide (0 ≤ x) && decide (x ≤ 63)) = true
    · by_cases q : risFrom s 1 = true
      · refine ⟨(keep l s, true), ?_, ?_, Nat.le_trans (List.length_filter_le _ _) (by omega)⟩
        · refine Ev.bind (spec_uses l (by omega)) ?_
          simp only [if_pos h]
          refine Ev.bind er ?_
          rw [g, q]
          simp only [Bool.true_and, if_true]
          refine Ev.bind (f := fun _ t => some (t, true)) (spec_only_l l s hn (by omega) l.length 0 [] (by omega) (by omega) (by simp)) (Ev.now _)
        · simp only [if_pos h, if_pos g]
          refine Ev.bind ei ?_
          rw [q]
          refine Ev.step (fun k => by rw [impl_OnlyUses.j0, if_neg (by decide)]; rfl) (impl_only_l l s hn (by omega) l.length 0 [] (by omega) (by omega) (by simp))
      · refine ⟨([], false), ?_, ?_, by simp⟩
        · refine Ev.bind (spec_uses l (by omega)) ?_
          simp only [if_pos h]
          refine Ev.bind er ?_
          rw [g, Bool.eq_false_iff.mpr q]
          exact Ev.now _
        · simp only [if_pos h, if_pos g]
          refine Ev.bind ei ?_
          rw [Bool.eq_false_iff.mpr q]
          exact ev_ret bad
    · refine ⟨([], false), ?_, ?_, by simp⟩
      · refine Ev.bind (spec_uses l (by omega)) ?_
        simp only [if_pos h]
        refine Ev.bind er ?_
        rw [Bool.eq_false_iff.mpr g]
        exact Ev.now _
      · simp only [if_pos h, if_neg g]
        exact ev_ret bad
  · refine ⟨([], false), ?_, ?_, by simp⟩
    · refine Ev.bind (spec_uses l (by omega)) ?_
      simp only [if_neg h]
      exact Ev.now _
    · simp only [if_neg h]
      exact ev_ret bad
theorem FnExactOnlyUses : laws_FnExactOnlyUses.Pure := by
  intro l s _ hl _ _ hs _
  refine Ev.rounds (r := true) ?_
  unfold laws_FnExactOnlyUses.f
  by_cases hb : (l.length : Int) > 1048576
  · simp only [if_pos hb]; exact Ev.now _
  simp only [if_neg hb]
  by_cases hb2 : (s.length : Int) > 1048576
  · simp only [if_pos hb2]; exact Ev.now _
  simp only [if_neg hb2]
  obtain ⟨r, es, ei, hr⟩ := both l s (by omega) (by omega)
  have et := toInts l (by omega)
  have eu := toInts s (by omega)
  obtain ⟨ys, hm, hh⟩ := mark_held 1 r.1 (by omega) (by omega) (by omega)
  obtain ⟨zs, hm2, _⟩ := mark_held 1 l (by omega) (by omega) (by omega)
  obtain ⟨us, hm3, _⟩ := mark_held (1 + (l.length : Int)) s (by omega) (by omega) (by omega)
  refine Ev.bind et (Ev.bind eu (Ev.bind es (Ev.bind et (Ev.bind eu (Ev.bind ei (Ev.bind (eqs _ (by omega)) ?_))))))
  simp only [bne_self_eq_false, if_true]
  refine Ev.step (fun k => by rw [laws_FnExactOnlyUses.j0, if_neg (by decide)]) ?_
  refine Ev.bind et (Ev.bind (eqs _ (by omega)) ?_)
  simp only [if_true]
  refine Ev.bind eu (Ev.bind (eqs _ (by omega)) ?_)
  simp only [if_true]
  refine Ev.bind hm2 (Ev.bind hm3 ?_)
  simp only [if_neg (show ¬ (1 + (l.length : Int) + (s.length : Int) < 0) by omega)]
  refine Ev.bind (eqs _ (by omega)) ?_
  simp only [bne_self_eq_false, if_true]
  refine Ev.step (fun k => by rw [laws_FnExactOnlyUses.j1, if_neg (by decide)]) ?_
  refine Ev.bind hm (Ev.bind hh ?_)
  simp only [if_neg (show ¬ (1 + (r.1.length : Int) < 0) by omega), if_true]
  refine Ev.bind et (Ev.bind eu (Ev.bind ei (Ev.bind (eqs _ (by omega)) ?_)))
  simp only [bne_self_eq_false, if_true]
  refine Ev.step (fun k => by rw [laws_FnExactOnlyUses.j2, if_neg (by decide)]) ?_
  refine Ev.bind hh (ev_all fun k => ?_)
  rw [if_neg (by omega), if_pos rfl]

end Go.Proofs.Ytbdedpodbnhkfaa.Pure
