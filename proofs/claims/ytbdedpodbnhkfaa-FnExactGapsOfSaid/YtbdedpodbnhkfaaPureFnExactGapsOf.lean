/- The program's GapsOf returns what the reference's returns, for every list, in new memory. Conditions: those of the row alone. -/
import Derived.Test.YtbdedpodbnhkfaaPFnExactGapsOfx3
namespace Go.Proofs.Ytbdedpodbnhkfaa.Pure
open Go.RowKit Go.Proofs.Ytbdedpodbnhkfaa.PFnExactGapsOf Go.Proofs.YtbdedpodbnhkfaaW.PrintWords Go.Proofs.YtbdedpodbnhkfaaW.PrintLast Go.Proofs.YtbdedpodbnhkfaaW.PrintMore
set_option linter.unusedVariables false
set_option linter.unusedSimpArgs false

theorem wid {x : Int} (h1 : -9223372036854775808 ≤ x) (h2 : x < 9223372036854775808) : wrap64 x = x := by unfold wrap64; omega
theorem i64_bd {x : Int} (h : (Lit.int .i64 x).wf = true) : -9223372036854775808 ≤ x ∧ x ≤ 9223372036854775807 := by
  simp only [Lit.wf, IntKind.min, IntKind.max, IntKind.signed, IntKind.bits, Bool.and_eq_true, decide_eq_true_eq, if_true] at h
  omega
/-- A loop's step, its answer known at once. -/
theorem ev_ret {α : Type} {g : Nat → Option α} {r : α} (h : ∀ k, g (k + 1) = some r) : Ev g r := Ev.step (f := fun _ => some r) h (Ev.now r)
theorem ev_all {α : Type} {g : Nat → Option α} {r : α} (h : ∀ k, g k = some r) : Ev g r := ⟨0, fun k _ => h k⟩

theorem getD_set (xs : List Int) (i j : Nat) (v : Int) (hi : i < xs.length) : (xs.set i v).getD j 0 = if i = j then v else xs.getD j 0 := by
  rw [List.getD_eq_getElem?_getD, List.getElem?_set]
  by_cases e : i = j
  · subst e; rw [if_pos rfl, if_pos hi, if_pos rfl]; rfl
  · rw [if_neg e, if_neg e, List.getD_eq_getElem?_getD]
theorem ext_getD {xs ys : List Int} (h : xs.length = ys.length) (he : ∀ j, j < xs.length → xs.getD j 0 = ys.getD j 0) : xs = ys := by
  apply List.ext_getElem h
  intro j h1 h2
  have := he j h1
  rwa [List.getD_eq_getElem?_getD, List.getD_eq_getElem?_getD, List.getElem?_eq_getElem h1, List.getElem?_eq_getElem h2] at this
theorem rd_nat (xs : List Int) (i : Nat) : rd xs (i : Int) = xs.getD i 0 := by unfold rd; rw [Int.toNat_natCast]
theorem rd_mem (xs : List Int) (i : Nat) (h : i < xs.length) : rd xs (i : Int) ∈ xs := by
  rw [rd_nat, List.getD_eq_getElem?_getD, List.getElem?_eq_getElem h]
  exact List.getElem_mem _
theorem take_snoc (xs : List Int) (i : Nat) (h : i < xs.length) : xs.take (i + 1) = xs.take i ++ [rd xs (i : Int)] := by
  rw [List.take_succ_eq_append_getElem h, rd_nat, List.getD_eq_getElem?_getD, List.getElem?_eq_getElem h]
  rfl
theorem drop_cons (xs : List Int) (i : Nat) (h : i < xs.length) : xs.drop i = rd xs (i : Int) :: xs.drop (i + 1) := by
  rw [List.drop_eq_getElem_cons h, rd_nat, List.getD_eq_getElem?_getD, List.getElem?_eq_getElem h]
  rfl

/-- What both ask of uses. -/
def usesOk (l : List Int) : Bool := decide (l.length ≤ 60) && l.all (fun x => decide (0 ≤ x) && decide (x ≤ 63))
theorem usesOk_len {l : List Int} (h : usesOk l = true) : l.length ≤ 60 := by
  unfold usesOk at h
  rw [Bool.and_eq_true] at h
  exact of_decide_eq_true h.1
theorem usesOk_mem {l : List Int} (h : usesOk l = true) {x : Int} (hx : x ∈ l) : 0 ≤ x ∧ x ≤ 63 := by
  unfold usesOk at h
  rw [Bool.and_eq_true, List.all_eq_true] at h
  have := h.2 x hx
  rw [Bool.and_eq_true] at this
  exact ⟨of_decide_eq_true this.1, of_decide_eq_true this.2⟩
theorem impl_uses (l : List Int) : impl_ValidUses.f l = some (usesOk l) := by
  unfold impl_ValidUses.f usesOk impl_allIn.f
  by_cases h : l.length ≤ 60
  · rw [if_pos (by omega), decide_eq_true h, Bool.true_and, Option.bind_some]
  · rw [if_neg (by omega), decide_eq_false h, Bool.false_and]

theorem spec_addr (x : Int) : spec_l02Address.f x = some (decide (0 ≤ x) && decide (x ≤ 63)) := by
  unfold spec_l02Address.f spec_l00In.f
  by_cases h : 0 ≤ x
  · rw [if_pos h, decide_eq_true h, Bool.true_and, Option.bind_some]
  · rw [if_neg h, decide_eq_false h, Bool.false_and, Option.bind_some]
theorem spec_uses_l (l : List Int) (hl : l.length ≤ 140737488355328) (d : Nat) : ∀ (i : Nat), l.length - i = d → i ≤ l.length → Ev (fun k => spec_l02Uses.l0 k l (i : Int)) (decide (l.length ≤ 60) && (l.drop i).all (fun x => decide (0 ≤ x) && decide (x ≤ 63))) := by
  induction d with
  | zero =>
    intro i hd hi
    rw [List.drop_eq_nil_of_le (by omega), List.all_nil, Bool.and_true]
    refine ev_ret (fun k => ?_)
    rw [spec_l02Uses.l0, if_neg (by omega)]
    by_cases h : l.length ≤ 60
    · rw [decide_eq_true h, decide_eq_true (by omega)]
    · rw [decide_eq_false h, decide_eq_false (by omega)]
  | succ d ih =>
    intro i hd hi
    rw [drop_cons l i (by omega), List.all_cons]
    by_cases h : (decide (0 ≤ rd l (i : Int)) && decide (rd l (i : Int) ≤ 63)) = true
    · rw [h, Bool.true_and]
      refine Ev.step (fun k => ?_) (ih (i + 1) (by omega) (by omega))
      rw [spec_l02Uses.l0, if_pos (by omega), if_pos (by omega), spec_addr, Option.bind_some, if_pos h, wid (x := (i : Int) + 1) (by omega) (by omega), show ((i + 1 : Nat) : Int) = (i : Int) + 1 by omega]
    · rw [Bool.eq_false_iff.mpr h, Bool.false_and, Bool.and_false]
      refine ev_ret (fun k => ?_)
      rw [spec_l02Uses.l0, if_pos (by omega), if_pos (by omega), spec_addr, Option.bind_some, if_neg h]
theorem spec_uses (l : List Int) (hl : l.length ≤ 140737488355328) : Ev (fun k => spec_l02Uses.f k l) (usesOk l) := spec_uses_l l hl l.length 0 (by omega) (by omega)

/-- The index of the last x before place j, -1 if there is none. -/
def lastBefore (l : List Int) (x : Int) : Nat → Int
  | 0 => -1
  | j + 1 => if rd l (j : Int) = x then (j : Int) else lastBefore l x j
theorem lastBefore_range (l : List Int) (x : Int) : ∀ j : Nat, lastBefore l x j = -1 ∨ (0 ≤ lastBefore l x j ∧ lastBefore l x j < (j : Int)) := by
  intro j
  induction j with
  | zero => exact .inl rfl
  | succ j ih =>
    rw [lastBefore]
    by_cases h : rd l (j : Int) = x
    · rw [if_pos h]; right; omega
    · rw [if_neg h]; omega
theorem lastBefore_take (l : List Int) (x : Int) (m : Nat) : ∀ j : Nat, j ≤ m → lastBefore (l.take m) x j = lastBefore l x j := by
  intro j
  induction j with
  | zero => intro _; rfl
  | succ j ih =>
    intro hj
    have e : rd (l.take m) (j : Int) = rd l (j : Int) := by
      rw [rd_nat, rd_nat, List.getD_eq_getElem?_getD, List.getD_eq_getElem?_getD, List.getElem?_take, if_pos (by omega)]
    rw [lastBefore, lastBefore, e, ih (by omega)]
def gapOf (l : List Int) (i : Nat) : Int := if lastBefore l (rd l (i : Int)) i < 0 then 0 else (i : Int) - lastBefore l (rd l (i : Int)) i
theorem impl_last_l (l : List Int) (x : Int) (hl : l.length ≤ 1000) : ∀ (j : Nat), j ≤ l.length → Ev (fun k => impl_lastUse.l0 k l x ((j : Int) - 1)) (lastBefore l x j) := by
  intro j
  induction j with
  | zero =>
    intro hj
    exact ev_ret (fun k => by rw [impl_lastUse.l0, if_neg (by omega), lastBefore])
  | succ j ih =>
    intro hj
    rw [show ((j + 1 : Nat) : Int) - 1 = (j : Int) by omega, lastBefore]
    by_cases h : rd l (j : Int) = x
    · rw [if_pos h]
      exact ev_ret (fun k => by rw [impl_lastUse.l0, if_pos (by omega), if_pos (by omega), if_pos (by omega), if_pos h])
    · rw [if_neg h]
      refine Ev.step (fun k => ?_) (ih (by omega))
      rw [impl_lastUse.l0, if_pos (by omega), if_pos (by omega), if_pos (by omega), if_neg h, wid (by omega) (by omega)]
theorem impl_gap_l (l : List Int) (hl : l.length ≤ 60) (d : Nat) : ∀ (i : Nat) (acc : List Int), l.length - i = d → i ≤ l.length → acc.length ≤ i → Ev (fun k => impl_GapsOf.l0 k l acc l (l.length : Int) (i : Int)) (acc ++ (List.range' i d).map (gapOf l), true) := by
  induction d with
  | zero =>
    intro i acc hd hi ha
    rw [List.range'_zero, List.map_nil, List.append_nil]
    exact ev_ret (fun k => by rw [impl_GapsOf.l0, if_neg (by omega)])
  | succ d ih =>
    intro i acc hd hi ha
    rw [List.range'_succ, List.map_cons, List.append_cons]
    have e : Ev (fun k => impl_lastUse.f k (l.take i) (rd l (i : Int))) (lastBefore l (rd l (i : Int)) i) := by
      unfold impl_lastUse.f
      have hlt : (l.take i).length = i := by rw [List.length_take]; omega
      rw [hlt, wid (by omega) (by omega), ← lastBefore_take l _ i i (by omega)]
      exact impl_last_l _ _ (by omega) i (by omega)
    refine Ev.step (fun k => by rw [impl_GapsOf.l0, if_pos (by omega), if_pos (by omega), if_pos (by omega), if_pos (by omega), Int.toNat_natCast, wid (x := (i : Int) + 1) (by omega) (by omega)]) (Ev.bind e ?_)
    have hr := lastBefore_range l (rd l (i : Int)) i
    have hx := ih (i + 1) (acc ++ [gapOf l i]) (by omega) (by omega) (by simp; omega)
    rw [show ((i + 1 : Nat) : Int) = (i : Int) + 1 by omega] at hx
    by_cases h : lastBefore l (rd l (i : Int)) i < 0
    · simp only [if_neg (show ¬ (lastBefore l (rd l (i : Int)) i ≥ 0) by omega), if_pos (show acc.length < 17592186044416 by omega)]
      have hg : gapOf l i = 0 := by unfold gapOf; rw [if_pos h]
      rw [hg] at hx ⊢; exact hx
    · simp only [if_pos (show (lastBefore l (rd l (i : Int)) i ≥ 0) by omega), if_pos (show acc.length < 17592186044416 by omega)]
      have hg : gapOf l i = (i : Int) - lastBefore l (rd l (i : Int)) i := by unfold gapOf; rw [if_neg h]
      rw [hg] at hx ⊢; rw [wid (by omega) (by omega)]; exact hx
def gapsAns (l : List Int) : List Int × Bool := if usesOk l = true then ((List.range' 0 l.length).map (gapOf l), true) else ([], false)
theorem impl_gaps (l : List Int) : Ev (fun k => impl_GapsOf.f k l) (gapsAns l) := by
  unfold impl_GapsOf.f gapsAns
  simp only [impl_uses, Option.bind_some]
  by_cases h : usesOk l = true
  · simp only [if_pos h]
    exact impl_gap_l l (usesOk_len h) l.length 0 [] (by omega) (by omega) (by simp)
  · simp only [if_neg h]
    exact Ev.now _

theorem toInts_l (l : List Int) (hl : l.length ≤ 140737488355328) (d : Nat) : ∀ (i : Nat) (xs : List Int), xs.length = l.length → (∀ j, j < i → xs.getD j 0 = l.getD j 0) → l.length - i = d → i ≤ l.length →
    Ev (fun k => laws_toInt64S.l0 k l xs (i : Int)) l := by
  induction d with
  | zero =>
    intro i xs hx h hd hi
    have e : xs = l := ext_getD hx (fun j hj => h j (by omega))
    subst e
    exact ev_ret (fun k => by rw [laws_toInt64S.l0, if_neg (by omega)])
  | succ d ih =>
    intro i xs hx h hd hi
    refine Ev.step (fun k => ?_) (ih (i + 1) (xs.set i (rd l (i : Int))) (by rw [List.length_set, hx]) (fun j hj => ?_) (by omega) (by omega))
    · rw [laws_toInt64S.l0, if_pos (by omega), if_pos (by omega), if_pos (by omega), Int.toNat_natCast, wid (x := (i : Int) + 1) (by omega) (by omega), show ((i + 1 : Nat) : Int) = (i : Int) + 1 by omega]
    · rw [getD_set _ _ _ _ (by omega)]
      by_cases e : i = j
      · subst e; rw [if_pos rfl, rd_nat]
      · rw [if_neg e]; exact h j (by omega)
theorem toInts (l : List Int) (hl : l.length ≤ 35184372088832) : Ev (fun k => laws_toInt64S.f k l) l := by
  unfold laws_toInt64S.f
  simp only [if_pos (show (0 : Int) ≤ (l.length : Int) by omega), Int.toNat_natCast, if_pos hl]
  exact toInts_l l (by omega) l.length 0 _ (by rw [List.length_replicate]) (fun j hj => by omega) (by omega) (by omega)

/-- A list is equal to itself. -/
theorem eqs_l (a : List Int) (ha : a.length ≤ 140737488355328) (d : Nat) : ∀ (i : Int), 0 ≤ i → (a.length : Int) - i = d → Ev (fun k => laws_eqInt64S.l0 k a a i) true := by
  induction d with
  | zero => intro i h0 hd; exact ev_ret (fun k => by rw [laws_eqInt64S.l0, if_neg (by omega)])
  | succ d ih =>
    intro i h0 hd
    refine Ev.step (fun k => ?_) (ih (i + 1) (by omega) (by omega))
    rw [laws_eqInt64S.l0, if_pos (by omega), if_pos h0, if_pos (by omega), if_pos rfl, wid (x := i + 1) (by omega) (by omega)]
theorem eqs (a : List Int) (ha : a.length ≤ 140737488355328) : Ev (fun k => laws_eqInt64S.f k a a) true := by
  unfold laws_eqInt64S.f
  simp only [if_true]
  exact eqs_l a ha a.length 0 (by omega) (by omega)

/-- A list whose numbers go up one by one from a on, as far as index i. -/
def Upto (a : Int) (n : Nat) (xs : List Int) (i : Nat) : Prop := xs.length = n ∧ ∀ j, j < i → xs.getD j 0 = a + (j : Int)
theorem upto_set {a : Int} {n i : Nat} {xs : List Int} (h : Upto a n xs i) (hi : i < n) : Upto a n (xs.set i (a + (i : Int))) (i + 1) := by
  refine ⟨by rw [List.length_set]; exact h.1, fun j hj => ?_⟩
  have hl := h.1
  rw [List.getD_eq_getElem?_getD, List.getElem?_set]
  by_cases e : i = j
  · subst e
    rw [if_pos rfl, if_pos (by omega)]
    rfl
  · rw [if_neg e, ← List.getD_eq_getElem?_getD]
    exact h.2 j (by omega)
theorem mark_l (a : Int) (n : Nat) (h1 : 0 ≤ a) (h2 : a ≤ 4611686018427387904) (hn : n ≤ 140737488355328) (d : Nat) : ∀ (i : Nat) (xs : List Int), Upto a n xs i → n - i = d → i ≤ n →
    ∃ ys, Ev (fun k => laws_markInt64S.l0 k xs (a + (i : Int)) (i : Int)) (a + (n : Int), ys) ∧ Upto a n ys n := by
  induction d with
  | zero =>
    intro i xs h hd hi
    have e : i = n := by omega
    subst e
    have hl := h.1
    exact ⟨xs, ev_ret (fun k => by rw [laws_markInt64S.l0, if_neg (by omega)]), h⟩
  | succ d ih =>
    intro i xs h hd hi
    have hl := h.1
    obtain ⟨ys, e, hy⟩ := ih (i + 1) _ (upto_set h (by omega)) (by omega) (by omega)
    refine ⟨ys, Ev.step (fun k => ?_) e, hy⟩
    rw [laws_markInt64S.l0, if_pos (by omega), if_pos (by omega), wid (x := a + (i : Int) + 1) (by omega) (by omega), wid (x := (i : Int) + 1) (by omega) (by omega), Int.toNat_natCast]
    rw [show a + ((i + 1 : Nat) : Int) = a + (i : Int) + 1 by omega, show ((i + 1 : Nat) : Int) = (i : Int) + 1 by omega]
theorem held_l (a : Int) (n : Nat) (ys : List Int) (h1 : 0 ≤ a) (h2 : a ≤ 4611686018427387904) (hn : n ≤ 140737488355328) (h : Upto a n ys n) (d : Nat) : ∀ (i : Nat), n - i = d → i ≤ n →
    Ev (fun k => laws_heldInt64S.l0 k ys (a + (i : Int)) (i : Int)) (a + (n : Int)) := by
  have hl := h.1
  induction d with
  | zero =>
    intro i hd hi
    have e : i = n := by omega
    subst e
    exact ev_ret (fun k => by rw [laws_heldInt64S.l0, if_neg (by omega)])
  | succ d ih =>
    intro i hd hi
    refine Ev.step (fun k => ?_) (ih (i + 1) (by omega) (by omega))
    have hr : rd ys (i : Int) = a + (i : Int) := by unfold rd; rw [Int.toNat_natCast]; exact h.2 i (by omega)
    rw [laws_heldInt64S.l0, if_pos (by omega), if_pos (by omega), if_pos hr, wid (x := a + (i : Int) + 1) (by omega) (by omega), wid (x := (i : Int) + 1) (by omega) (by omega)]
    rw [show a + ((i + 1 : Nat) : Int) = a + (i : Int) + 1 by omega, show ((i + 1 : Nat) : Int) = (i : Int) + 1 by omega]
/-- What is marked is held. -/
theorem mark_held (a : Int) (xs : List Int) (h1 : 0 ≤ a) (h2 : a ≤ 4611686018427387904) (hn : xs.length ≤ 140737488355328) :
    ∃ ys, Ev (fun k => laws_markInt64S.f k xs a) (a + (xs.length : Int), ys) ∧ Ev (fun k => laws_heldInt64S.f k ys a) (a + (xs.length : Int)) := by
  obtain ⟨ys, e, hy⟩ := mark_l a xs.length h1 h2 hn xs.length 0 xs ⟨rfl, fun j hj => by omega⟩ (by omega) (by omega)
  have e2 := held_l a xs.length ys h1 h2 hn hy xs.length 0 (by omega) (by omega)
  refine ⟨ys, ?_, ?_⟩
  · simpa [laws_markInt64S.f] using e
  · simpa [laws_heldInt64S.f] using e2

theorem spec_last_l (l : List Int) (x : Int) (hl : l.length ≤ 1000) : ∀ (j : Nat), j ≤ l.length → Ev (fun k => spec_l02Last.l0 k l x ((j : Int) - 1)) (lastBefore l x j) := by
  intro j
  induction j with
  | zero =>
    intro hj
    exact ev_ret (fun k => by rw [spec_l02Last.l0, if_neg (by omega), lastBefore])
  | succ j ih =>
    intro hj
    rw [show ((j + 1 : Nat) : Int) - 1 = (j : Int) by omega, lastBefore]
    by_cases h : rd l (j : Int) = x
    · rw [if_pos h]
      exact ev_ret (fun k => by rw [spec_l02Last.l0, if_pos (by omega), if_pos (by omega), if_pos (by omega), if_pos h])
    · rw [if_neg h]
      refine Ev.step (fun k => ?_) (ih (by omega))
      rw [spec_l02Last.l0, if_pos (by omega), if_pos (by omega), if_pos (by omega), if_neg h, wid (by omega) (by omega)]
theorem spec_gap_l (l : List Int) (hl : l.length ≤ 60) (d : Nat) : ∀ (i : Nat) (acc : List Int), l.length - i = d → i ≤ l.length → acc.length ≤ i → Ev (fun k => spec_GapsOf.l0 k l acc (i : Int)) (acc ++ (List.range' i d).map (gapOf l), true) := by
  induction d with
  | zero =>
    intro i acc hd hi ha
    rw [List.range'_zero, List.map_nil, List.append_nil]
    exact ev_ret (fun k => by rw [spec_GapsOf.l0, if_neg (by omega)])
  | succ d ih =>
    intro i acc hd hi ha
    rw [List.range'_succ, List.map_cons, List.append_cons]
    have e : Ev (fun k => spec_l02Last.f k l (rd l (i : Int)) (i : Int)) (lastBefore l (rd l (i : Int)) i) := by
      unfold spec_l02Last.f
      rw [wid (by omega) (by omega)]
      exact spec_last_l _ _ (by omega) i (by omega)
    refine Ev.step (fun k => by rw [spec_GapsOf.l0, if_pos (by omega), if_pos (by omega), wid (x := (i : Int) + 1) (by omega) (by omega)]) (Ev.bind e ?_)
    have hr := lastBefore_range l (rd l (i : Int)) i
    have hx := ih (i + 1) (acc ++ [gapOf l i]) (by omega) (by omega) (by simp; omega)
    rw [show ((i + 1 : Nat) : Int) = (i : Int) + 1 by omega] at hx
    by_cases h : lastBefore l (rd l (i : Int)) i < 0
    · simp only [if_pos h, if_pos (show acc.length < 17592186044416 by omega)]
      have hg : gapOf l i = 0 := by unfold gapOf; rw [if_pos h]
      rw [hg] at hx ⊢; exact hx
    · simp only [if_neg h, if_pos (show acc.length < 17592186044416 by omega)]
      have hg : gapOf l i = (i : Int) - lastBefore l (rd l (i : Int)) i := by unfold gapOf; rw [if_neg h]
      rw [hg] at hx ⊢; rw [wid (by omega) (by omega)]; exact hx
theorem both (l : List Int) (hl : l.length ≤ 1048576) : ∃ r, Ev (fun k => spec_GapsOf.f k l) r ∧ Ev (fun k => impl_GapsOf.f k l) r ∧ r.1.length ≤ 1000000 := by
  refine ⟨gapsAns l, ?_, impl_gaps l, ?_⟩
  · unfold spec_GapsOf.f gapsAns
    refine Ev.bind (spec_uses l (by omega)) ?_
    by_cases h : usesOk l = true
    · simp only [if_pos h]
      exact spec_gap_l l (usesOk_len h) l.length 0 [] (by omega) (by omega) (by simp)
    · simp only [if_neg h]
      exact Ev.now _
  · unfold gapsAns
    by_cases h : usesOk l = true
    · have := usesOk_len h
      rw [if_pos h]; simp; omega
    · rw [if_neg h]; simp
theorem FnExactGapsOf : laws_FnExactGapsOf.Pure := by
  intro l  _ hl _ 
  refine Ev.rounds (r := true) ?_
  unfold laws_FnExactGapsOf.f
  by_cases hb : (l.length : Int) > 1048576
  · simp only [if_pos hb]; exact Ev.now _
  simp only [if_neg hb]
  obtain ⟨r, es, ei, hr⟩ := both l  (by omega)
  have et := toInts l (by omega)
  obtain ⟨ys, hm, hh⟩ := mark_held 1 r.1 (by omega) (by omega) (by omega)
  obtain ⟨zs, hm2, _⟩ := mark_held 1 l (by omega) (by omega) (by omega)
  refine Ev.bind et (Ev.bind es (Ev.bind et (Ev.bind ei (Ev.bind (eqs _ (by omega)) ?_))))
  simp only [bne_self_eq_false, if_true]
  refine Ev.step (fun k => by rw [laws_FnExactGapsOf.j0, if_neg (by decide)]) ?_
  refine Ev.bind et (Ev.bind (eqs _ (by omega)) ?_)
  simp only [if_true]
  refine Ev.bind hm2 ?_
  simp only [if_neg (show ¬ (1 + (l.length : Int) < 0) by omega)]
  refine Ev.bind (eqs _ (by omega)) ?_
  simp only [bne_self_eq_false, if_true]
  refine Ev.step (fun k => by rw [laws_FnExactGapsOf.j1, if_neg (by decide)]) ?_
  refine Ev.bind hm (Ev.bind hh ?_)
  simp only [if_neg (show ¬ (1 + (r.1.length : Int) < 0) by omega), if_true]
  refine Ev.bind et (Ev.bind ei (Ev.bind (eqs _ (by omega)) ?_))
  simp only [bne_self_eq_false, if_true]
  refine Ev.step (fun k => by rw [laws_FnExactGapsOf.j2, if_neg (by decide)]) ?_
  refine Ev.bind hh (ev_all fun k => ?_)
  rw [if_neg (by omega), if_pos rfl]


end Go.Proofs.Ytbdedpodbnhkfaa.Pure
