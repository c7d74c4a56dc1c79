/- The program's FromRuns returns what the reference's returns, for all rows of rows, in new memory. Conditions: those of the row alone. -/
import Derived.Test.YtigbabolmahlaaaPFnExactFromRunsy
namespace Go.Proofs.Ytigbabolmahlaaa.Pure
open Go.RowKit Go.Proofs.Ytigbabolmahlaaa.PFnExactFromRuns Go.Proofs.YtigbabolmahlaaaW.PrintWords Go.Proofs.YtigbabolmahlaaaW.PrintLast Go.Proofs.YtigbabolmahlaaaW.PrintMore
set_option linter.unusedVariables false
set_option linter.unusedSimpArgs false

theorem wid {x : Int} (h1 : -9223372036854775808 ≤ x) (h2 : x < 9223372036854775808) : wrap64 x = x := by unfold wrap64; omega
theorem i64_bd {x : Int} (h : (Lit.int .i64 x).wf = true) : -9223372036854775808 ≤ x ∧ x ≤ 9223372036854775807 := by
  simp only [Lit.wf, IntKind.min, IntKind.max, IntKind.signed, IntKind.bits, Bool.and_eq_true, decide_eq_true_eq, if_true] at h
  omega
/-- A loop's step, its answer known at once. -/
theorem ev_ret {α : Type} {g : Nat → Option α} {r : α} (h : ∀ k, g (k + 1) = some r) : Ev g r := Ev.step (f := fun _ => some r) h (Ev.now r)
theorem ev_all {α : Type} {g : Nat → Option α} {r : α} (h : ∀ k, g k = some r) : Ev g r := ⟨0, fun k _ => h k⟩

theorem getD_set (xs : List Int) (i j : Nat) (v : Int) (hi : i < xs.length) : (xs.set i v).getD j 0 = if i = j then v else xs.getD j 0 := by
  rw [List.getD_eq_getElem?_getD, List.getElem?_set]
  by_cases e : i = j
  · subst e; rw [if_pos rfl, if_pos hi, if_pos rfl]; rfl
  · rw [if_neg e, if_neg e, List.getD_eq_getElem?_getD]
theorem ext_getD {xs ys : List Int} (h : xs.length = ys.length) (he : ∀ j, j < xs.length → xs.getD j 0 = ys.getD j 0) : xs = ys := by
  apply List.ext_getElem h
  intro j h1 h2
  have := he j h1
  rwa [List.getD_eq_getElem?_getD, List.getD_eq_getElem?_getD, List.getElem?_eq_getElem h1, List.getElem?_eq_getElem h2] at this
theorem rd_nat (xs : List Int) (i : Nat) : rd xs (i : Int) = xs.getD i 0 := by unfold rd; rw [Int.toNat_natCast]
theorem rd_mem (xs : List Int) (i : Nat) (h : i < xs.length) : rd xs (i : Int) ∈ xs := by
  rw [rd_nat, List.getD_eq_getElem?_getD, List.getElem?_eq_getElem h]
  exact List.getElem_mem _
theorem take_snoc (xs : List Int) (i : Nat) (h : i < xs.length) : xs.take (i + 1) = xs.take i ++ [rd xs (i : Int)] := by
  rw [List.take_succ_eq_append_getElem h, rd_nat, List.getD_eq_getElem?_getD, List.getElem?_eq_getElem h]
  rfl
theorem drop_cons (xs : List Int) (i : Nat) (h : i < xs.length) : xs.drop i = rd xs (i : Int) :: xs.drop (i + 1) := by
  rw [List.drop_eq_getElem_cons h, rd_nat, List.getD_eq_getElem?_getD, List.getElem?_eq_getElem h]
  rfl

/-! is it a list of the chapter? -/
theorem spec_list_l (l : List Int) (hl : l.length ≤ 140737488355328) (d : Nat) : ∀ (i : Nat), i ≤ l.length → l.length - i = d → Ev (fun k => spec_l01List.l0 k l (i : Int)) ((l.drop i).all (fun x => decide (-1000000000 ≤ x) && decide (x ≤ 1000000000)) && decide ((l.length : Int) ≤ 80)) := by
  induction d with
  | zero =>
    intro i hi hd
    rw [List.drop_eq_nil_of_le (by omega)]
    exact ev_ret (fun k => by rw [spec_l01List.l0, if_neg (by omega)]; rfl)
  | succ d ih =>
    intro i hi hd
    have hx := ih (i + 1) (by omega) (by omega)
    have g1 : (i : Int) < (l.length : Int) := by omega
    have g2 : (0 : Int) ≤ (i : Int) := by omega
    have e2 : wrap64 ((i : Int) + 1) = ((i + 1 : Nat) : Int) := by rw [wid (by omega) (by omega)]; omega
    rw [drop_cons l i (by omega), List.all_cons]
    generalize hz : rd l (i : Int) = z
    have hs : spec_l00In.f z (-1000000000) 1000000000 = some (decide (-1000000000 ≤ z) && decide (z ≤ 1000000000)) := by
      unfold spec_l00In.f
      by_cases h : -1000000000 ≤ z
      · rw [if_pos h, decide_eq_true h, Bool.true_and]
      · rw [if_neg h, decide_eq_false h, Bool.false_and]
    refine Ev.step (f := fun k => if (decide (-1000000000 ≤ z) && decide (z ≤ 1000000000)) = true then spec_l01List.l0 k l ((i + 1 : Nat) : Int) else some false) (fun k => ?_) ?_
    · rw [spec_l01List.l0, if_pos g1, if_pos g2, hz, hs, Option.bind_some, e2]
    · cases (decide (-1000000000 ≤ z) && decide (z ≤ 1000000000)) with
      | true => simpa using hx
      | false => simpa using Ev.now false
/-- Is it a list of the chapter? -/
def isL (l : List Int) : Bool := l.all (fun x => decide (-1000000000 ≤ x) && decide (x ≤ 1000000000)) && decide ((l.length : Int) ≤ 80)
theorem spec_list (l : List Int) (hl : l.length ≤ 140737488355328) : Ev (fun k => spec_l01List.f k l) (isL l) := spec_list_l l hl l.length 0 (by omega) (by omega)
theorem impl_list (l : List Int) : impl_isList.f l = some (isL l) := by
  unfold impl_isList.f impl_allIn.f isL
  by_cases h : (l.length : Int) ≤ 80
  · rw [if_pos h, decide_eq_true h, Bool.and_true]; rfl
  · rw [if_neg h, decide_eq_false h, Bool.and_false]

/-- A list whose numbers go up one by one from a on, as far as index i. -/
def Upto (a : Int) (n : Nat) (xs : List Int) (i : Nat) : Prop := xs.length = n ∧ ∀ j, j < i → xs.getD j 0 = a + (j : Int)
theorem upto_set {a : Int} {n i : Nat} {xs : List Int} (h : Upto a n xs i) (hi : i < n) : Upto a n (xs.set i (a + (i : Int))) (i + 1) := by
  refine ⟨by rw [List.length_set]; exact h.1, fun j hj => ?_⟩
  have hl := h.1
  rw [List.getD_eq_getElem?_getD, List.getElem?_set]
  by_cases e : i = j
  · subst e
    rw [if_pos rfl, if_pos (by omega)]
    rfl
  · rw [if_neg e, ← List.getD_eq_getElem?_getD]
    exact h.2 j (by omega)
theorem mark_l (a : Int) (n : Nat) (h1 : 0 ≤ a) (h2 : a ≤ 4611686018427387904) (hn : n ≤ 140737488355328) (d : Nat) : ∀ (i : Nat) (xs : List Int), Upto a n xs i → n - i = d → i ≤ n →
    ∃ ys, Ev (fun k => laws_markInt64S.l0 k xs (a + (i : Int)) (i : Int)) (a + (n : Int), ys) ∧ Upto a n ys n := by
  induction d with
  | zero =>
    intro i xs h hd hi
    have e : i = n := by omega
    subst e
    have hl := h.1
    exact ⟨xs, ev_ret (fun k => by rw [laws_markInt64S.l0, if_neg (by omega)]), h⟩
  | succ d ih =>
    intro i xs h hd hi
    have hl := h.1
    obtain ⟨ys, e, hy⟩ := ih (i + 1) _ (upto_set h (by omega)) (by omega) (by omega)
    refine ⟨ys, Ev.step (fun k => ?_) e, hy⟩
    rw [laws_markInt64S.l0, if_pos (by omega), if_pos (by omega), wid (x := a + (i : Int) + 1) (by omega) (by omega), wid (x := (i : Int) + 1) (by omega) (by omega), Int.toNat_natCast]
    rw [show a + ((i + 1 : Nat) : Int) = a + (i : Int) + 1 by omega, show ((i + 1 : Nat) : Int) = (i : Int) + 1 by omega]
theorem mark_I (a : Int) (xs : List Int) (h1 : 0 ≤ a) (h2 : a ≤ 4611686018427387904) (hn : xs.length ≤ 140737488355328) :
    ∃ ys, Ev (fun k => laws_markInt64S.f k xs a) (a + (xs.length : Int), ys) ∧ Upto a xs.length ys xs.length := by
  obtain ⟨ys, e, hy⟩ := mark_l a xs.length h1 h2 hn xs.length 0 xs ⟨rfl, fun j hj => by omega⟩ (by omega) (by omega)
  exact ⟨ys, by simpa [laws_markInt64S.f] using e, hy⟩

theorem held_l (a : Int) (n : Nat) (ys : List Int) (h1 : 0 ≤ a) (h2 : a ≤ 4611686018427387904) (hn : n ≤ 140737488355328) (h : Upto a n ys n) (d : Nat) : ∀ (i : Nat), n - i = d → i ≤ n →
    Ev (fun k => laws_heldInt64S.l0 k ys (a + (i : Int)) (i : Int)) (a + (n : Int)) := by
  have hl := h.1
  induction d with
  | zero =>
    intro i hd hi
    have e : i = n := by omega
    subst e
    exact ev_ret (fun k => by rw [laws_heldInt64S.l0, if_neg (by omega)])
  | succ d ih =>
    intro i hd hi
    refine Ev.step (fun k => ?_) (ih (i + 1) (by omega) (by omega))
    have hr : rd ys (i : Int) = a + (i : Int) := by unfold rd; rw [Int.toNat_natCast]; exact h.2 i (by omega)
    rw [laws_heldInt64S.l0, if_pos (by omega), if_pos (by omega), if_pos hr, wid (x := a + (i : Int) + 1) (by omega) (by omega), wid (x := (i : Int) + 1) (by omega) (by omega)]
    rw [show a + ((i + 1 : Nat) : Int) = a + (i : Int) + 1 by omega, show ((i + 1 : Nat) : Int) = (i : Int) + 1 by omega]
/-- What is marked is held. -/
theorem mark_held (a : Int) (xs : List Int) (h1 : 0 ≤ a) (h2 : a ≤ 4611686018427387904) (hn : xs.length ≤ 140737488355328) :
    ∃ ys, Ev (fun k => laws_markInt64S.f k xs a) (a + (xs.length : Int), ys) ∧ Ev (fun k => laws_heldInt64S.f k ys a) (a + (xs.length : Int)) := by
  obtain ⟨ys, e, hy⟩ := mark_l a xs.length h1 h2 hn xs.length 0 xs ⟨rfl, fun j hj => by omega⟩ (by omega) (by omega)
  have e2 := held_l a xs.length ys h1 h2 hn hy xs.length 0 (by omega) (by omega)
  refine ⟨ys, ?_, ?_⟩
  · simpa [laws_markInt64S.f] using e
  · simpa [laws_heldInt64S.f] using e2

theorem ev_and {α β : Type} {g : Nat → Option α} {f : Nat → Option β} {a : α} {b : β} (h : Ev g a) (k : Ev f b) : ∃ K, ∀ n, K ≤ n → g n = some a ∧ f n = some b := by
  obtain ⟨K, h⟩ := h
  obtain ⟨K2, k⟩ := k
  exact ⟨max K K2, fun n hn => ⟨h n (Nat.le_trans (Nat.le_max_left ..) hn), k n (Nat.le_trans (Nat.le_max_right ..) hn)⟩⟩
theorem rdL_app (A : List (List Int)) (x : List Int) (B : List (List Int)) : (A ++ x :: B).getD A.length [] = x := by
  rw [List.getD_eq_getElem?_getD, List.getElem?_append_right (Nat.le_refl _), Nat.sub_self]
  rfl
theorem setL_app (A : List (List Int)) (x y : List Int) (B : List (List Int)) : (A ++ x :: B).set A.length y = A ++ y :: B := by
  rw [List.set_append_right _ _ (Nat.le_refl _), Nat.sub_self]
  rfl

/-! rows of rows, marked -/
theorem markSS_l : ∀ (B : List (List Int)) (A : List (List Int)) (a : Int), (∀ x ∈ B, x.length ≤ 1000000000) → A.length + B.length ≤ 1000000000 → 0 ≤ a → a + 1000000000 * (B.length : Int) ≤ 4000000000000000000 →
    ∃ (m : Int) (ys : List (List Int)), Ev (fun k => laws_markInt64SS.l0 k (A ++ B) a (A.length : Int)) (m, A ++ ys) ∧ a ≤ m ∧ m ≤ a + 1000000000 * (B.length : Int)
  | [], A, a, _, hl, h0, h1 => by
    refine ⟨a, [], ev_ret (fun k => ?_), Int.le_refl _, by simp⟩
    · rw [laws_markInt64SS.l0, if_neg (by simp)]
  | x :: B, A, a, hr, hl, h0, h1 => by
    rw [List.length_cons] at hl h1
    have hx := hr x (List.mem_cons_self ..)
    obtain ⟨zs, e1, e2⟩ := mark_held a x h0 (by omega) (by omega)
    obtain ⟨m, ys, e3, h2, h3⟩ := markSS_l B (A ++ [zs]) (a + (x.length : Int)) (fun y hy => hr y (List.mem_cons_of_mem _ hy)) (by simp; omega) (by omega) (by omega)
    rw [List.length_append, List.length_singleton, List.append_assoc] at e3
    refine ⟨m, zs :: ys, ?_, by omega, by rw [List.length_cons]; omega⟩
    · refine Ev.step (fun k => ?_) (Ev.bind (f := fun k t => laws_markInt64SS.l0 k (A ++ t.2 :: B) t.1 ((A.length + 1 : Nat) : Int)) e1 (by simpa using e3))
      rw [laws_markInt64SS.l0, if_pos (by simp; omega), if_pos (by omega), Int.toNat_natCast, rdL_app, wid (x := (A.length : Int) + 1) (by omega) (by omega), show ((A.length + 1 : Nat) : Int) = (A.length : Int) + 1 by omega]
      simp only [setL_app]
theorem markSS (a : Int) (X : List (List Int)) (hX : X.length ≤ 100000000) (hr : ∀ x ∈ X, x.length ≤ 100000000) (h0 : 0 ≤ a) (h1 : a ≤ 1000000000) :
    ∃ (m : Int) (Y : List (List Int)), Ev (fun k => laws_markInt64SS.l0 k X a 0) (m, Y) ∧ a ≤ m ∧ m ≤ a + 1000000000 * (X.length : Int) := by
  obtain ⟨m, Y, e1, h2, h3⟩ := markSS_l X [] a (fun x hx => by have := hr x hx; omega) (by simp; omega) h0 (by omega)
  exact ⟨m, Y, by simpa using e1, h2, h3⟩

/-- A list is equal to itself. -/
theorem eqs_l (a : List Int) (ha : a.length ≤ 140737488355328) (d : Nat) : ∀ (i : Int), 0 ≤ i → (a.length : Int) - i = d → Ev (fun k => laws_eqInt64S.l0 k a a i) true := by
  induction d with
  | zero => intro i h0 hd; exact ev_ret (fun k => by rw [laws_eqInt64S.l0, if_neg (by omega)])
  | succ d ih =>
    intro i h0 hd
    refine Ev.step (fun k => ?_) (ih (i + 1) (by omega) (by omega))
    rw [laws_eqInt64S.l0, if_pos (by omega), if_pos h0, if_pos (by omega), if_pos rfl, wid (x := i + 1) (by omega) (by omega)]
theorem eqs (a : List Int) (ha : a.length ≤ 140737488355328) : Ev (fun k => laws_eqInt64S.f k a a) true := by
  unfold laws_eqInt64S.f
  simp only [if_true]
  exact eqs_l a ha a.length 0 (by omega) (by omega)

theorem eqsSS_l (X : List (List Int)) (hX : X.length ≤ 1000000000) (hr : ∀ x ∈ X, x.length ≤ 1000000000) : ∀ (B A : List (List Int)), X = A ++ B → Ev (fun k => laws_eqInt64SS.l0 k X X (A.length : Int)) true
  | [], A, e => by
    refine ev_ret (fun k => ?_)
    rw [laws_eqInt64SS.l0, if_neg (by rw [e]; simp)]
  | x :: B, A, e => by
    have hl : X.length = A.length + (B.length + 1) := by rw [e]; simp
    have hx : rd_L1 X (A.length : Int) = x := by unfold rd_L1; rw [Int.toNat_natCast, e]; exact rdL_app A x B
    have ih := eqsSS_l X hX hr B (A ++ [x]) (by rw [e]; simp)
    rw [List.length_append, List.length_singleton] at ih
    refine Ev.step (fun k => ?_) (Ev.bind (f := fun k t => if t = true then laws_eqInt64SS.l0 k X X ((A.length + 1 : Nat) : Int) else some false) (eqs x (by have := hr x (by rw [e]; simp); omega)) (by simpa using ih))
    rw [laws_eqInt64SS.l0, if_pos (by omega), if_pos (by omega), if_pos (by omega), hx, wid (x := (A.length : Int) + 1) (by omega) (by omega), show ((A.length + 1 : Nat) : Int) = (A.length : Int) + 1 by omega]
theorem eqsSS (X : List (List Int)) (hX : X.length ≤ 1000000000) (hr : ∀ x ∈ X, x.length ≤ 1000000000) : Ev (fun k => laws_eqInt64SS.f k X X) true := by
  unfold laws_eqInt64SS.f
  simp only [if_true]
  exact eqsSS_l X hX hr X [] rfl

theorem toInts_l (l : List Int) (hl : l.length ≤ 140737488355328) (d : Nat) : ∀ (i : Nat) (xs : List Int), xs.length = l.length → (∀ j, j < i → xs.getD j 0 = l.getD j 0) → l.length - i = d → i ≤ l.length →
    Ev (fun k => laws_toInt64S.l0 k l xs (i : Int)) l := by
  induction d with
  | zero =>
    intro i xs hx h hd hi
    have e : xs = l := ext_getD hx (fun j hj => h j (by omega))
    subst e
    exact ev_ret (fun k => by rw [laws_toInt64S.l0, if_neg (by omega)])
  | succ d ih =>
    intro i xs hx h hd hi
    refine Ev.step (fun k => ?_) (ih (i + 1) (xs.set i (rd l (i : Int))) (by rw [List.length_set, hx]) (fun j hj => ?_) (by omega) (by omega))
    · rw [laws_toInt64S.l0, if_pos (by omega), if_pos (by omega), if_pos (by omega), Int.toNat_natCast, wid (x := (i : Int) + 1) (by omega) (by omega), show ((i + 1 : Nat) : Int) = (i : Int) + 1 by omega]
    · rw [getD_set _ _ _ _ (by omega)]
      by_cases e : i = j
      · subst e; rw [if_pos rfl, rd_nat]
      · rw [if_neg e]; exact h j (by omega)
theorem toInts (l : List Int) (hl : l.length ≤ 35184372088832) : Ev (fun k => laws_toInt64S.f k l) l := by
  unfold laws_toInt64S.f
  simp only [if_pos (show (0 : Int) ≤ (l.length : Int) by omega), Int.toNat_natCast, if_pos hl]
  exact toInts_l l (by omega) l.length 0 _ (by rw [List.length_replicate]) (fun j hj => by omega) (by omega) (by omega)

/-- A row of rows, copied. -/
theorem toSS (X : List (List Int)) (hX : X.length ≤ 100000000) (hr : ∀ x ∈ X, x.length ≤ 100000000) : Ev (fun k => laws_toInt64SS.f k X) X := by
  have h : ∀ (Y : List (List Int)), (∀ x ∈ Y, x.length ≤ 100000000) → ∃ K, ∀ k, K ≤ k → (Y.all fun x => decide (laws_toInt64S.f k x = some x)) = true := by
    intro Y
    induction Y with
    | nil => intro _; exact ⟨0, fun _ _ => rfl⟩
    | cons y Y ih =>
      intro hy
      obtain ⟨K, h1⟩ := ih (fun x hx => hy x (List.mem_cons_of_mem _ hx))
      obtain ⟨K2, h2⟩ := toInts y (by have := hy y (List.mem_cons_self ..); omega)
      refine ⟨K + K2, fun k hk => ?_⟩
      rw [List.all_cons, h1 k (by omega), decide_eq_true (h2 k (by omega)), Bool.and_true]
  obtain ⟨K, hK⟩ := h X hr
  exact ⟨K, fun k hk => by unfold laws_toInt64SS.f; exact if_pos ⟨hX, hK k hk⟩⟩

/-! how many cells a row of rows has, counted down: what is counted to its end is not long -/
theorem szSS_l (X : List (List Int)) (hX : X.length ≤ 1048576) (d : Nat) : ∀ (i : Nat) (a : Int), X.length - i = d → i ≤ X.length → 0 ≤ a → a ≤ 1048576 → (∀ x ∈ X.drop i, x.length ≤ 9223372036854775807) →
    ∃ s : Int, Ev (fun k => laws_szInt64SS.l0 k X a (i : Int)) s ∧ (s < 0 ∨ (0 ≤ s ∧ ∀ x ∈ X.drop i, x.length ≤ 1048576)) := by
  induction d with
  | zero =>
    intro i a hd hi h0 h1 hx
    refine ⟨a, ev_ret (fun k => by rw [laws_szInt64SS.l0, if_neg (by omega)]), .inr ⟨h0, ?_⟩⟩
    rw [List.drop_eq_nil_of_le (by omega)]
    intro x hx; cases hx
  | succ d ih =>
    intro i a hd hi h0 h1 hx
    have hlt : i < X.length := by omega
    rw [List.drop_eq_getElem_cons hlt] at hx ⊢
    have hrow : rd_L1 X (i : Int) = X[i] := by unfold rd_L1; rw [Int.toNat_natCast, List.getD_eq_getElem?_getD, List.getElem?_eq_getElem hlt]; rfl
    have hl := hx _ (List.mem_cons_self ..)
    have hw : wrap64 (a - (X[i].length : Int)) = a - (X[i].length : Int) := wid (by omega) (by omega)
    by_cases h : a - (X[i].length : Int) < 0
    · refine ⟨-1, ev_ret (fun k => ?_), .inl (by omega)⟩
      rw [laws_szInt64SS.l0, if_pos (by omega), if_pos (by omega), hrow]
      unfold laws_szInt64S.f
      rw [hw, if_pos h]
      rfl
    · obtain ⟨s, hs, hh⟩ := ih (i + 1) (a - (X[i].length : Int)) (by omega) (by omega) (by omega) (by omega) (fun x h' => hx x (List.mem_cons_of_mem _ h'))
      refine ⟨s, Ev.step (fun k => ?_) hs, ?_⟩
      · rw [laws_szInt64SS.l0, if_pos (by omega), if_pos (by omega), hrow]
        unfold laws_szInt64S.f
        rw [hw, if_neg h, Option.bind_some, if_neg h, wid (x := (i : Int) + 1) (by omega) (by omega)]
        rfl
      · rcases hh with hh | ⟨hh, hz⟩
        · exact .inl hh
        · refine .inr ⟨hh, fun x h' => ?_⟩
          rcases List.mem_cons.1 h' with h' | h'
          · subst h'; omega
          · exact hz x h'
theorem szSS (X : List (List Int)) (hX : X.length ≤ 9223372036854775807) (hx : ∀ x ∈ X, x.length ≤ 9223372036854775807) :
    ∃ s : Int, Ev (fun k => laws_szInt64SS.f k X 1048576) s ∧ (s < 0 ∨ (0 ≤ s ∧ X.length ≤ 1048576 ∧ ∀ x ∈ X, x.length ≤ 1048576)) := by
  have hw : wrap64 (1048576 - (X.length : Int)) = 1048576 - (X.length : Int) := wid (by omega) (by omega)
  by_cases h : 1048576 - (X.length : Int) < 0
  · refine ⟨-1, ⟨0, fun k _ => ?_⟩, .inl (by omega)⟩
    unfold laws_szInt64SS.f
    simp only [hw, if_pos h]
  · obtain ⟨s, hs, hh⟩ := szSS_l X (by omega) X.length 0 (1048576 - (X.length : Int)) (by omega) (by omega) (by omega) (by omega) (by simpa using hx)
    refine ⟨s, ?_, ?_⟩
    · unfold laws_szInt64SS.f
      simp only [hw, if_neg h]
      exact hs
    · rcases hh with hh | ⟨hh, hz⟩
      · exact .inl hh
      · exact .inr ⟨hh, by omega, by simpa using hz⟩

theorem impl_range (a b c : Int) : impl_inRange.f a b c = some (decide (b ≤ a) && decide (a ≤ c)) := by
  unfold impl_inRange.f
  by_cases h : b ≤ a
  · rw [if_pos h, decide_eq_true h, Bool.true_and]
  · rw [if_neg h, decide_eq_false h, Bool.false_and]

/-! the list whose runs are given -/
/-- The run at i goes on from out. -/
def runOk (X : List (List Int)) (i : Nat) (n : Nat) : Bool := decide ((rd_L1 X (i : Int)).length = 2) && (decide (1 ≤ rd (rd_L1 X (i : Int)) 1) && decide (rd (rd_L1 X (i : Int)) 1 ≤ 80 - (n : Int))) && !(decide (0 < i) && decide (rd (rd_L1 X ((i - 1 : Nat) : Int)) 0 = rd (rd_L1 X (i : Int)) 0))
def fromR (X : List (List Int)) : Nat → Nat → List Int → List Int × Bool
  | 0, i, out => if isL out = true then (out, true) else ([], false)
  | d + 1, i, out => if runOk X i out.length = true then fromR X d (i + 1) (out ++ List.replicate (rd (rd_L1 X (i : Int)) 1).toNat (rd (rd_L1 X (i : Int)) 0)) else ([], false)
theorem fromR_len (X : List (List Int)) (d : Nat) : ∀ (i : Nat) (out : List Int), (fromR X d i out).1.length ≤ 80 := by
  induction d with
  | zero =>
    intro i out
    rw [fromR]
    split
    · rename_i h
      unfold isL at h
      rw [Bool.and_eq_true] at h
      have := of_decide_eq_true h.2
      show out.length ≤ 80
      omega
    · simp
  | succ d ih =>
    intro i out
    rw [fromR]
    split
    · exact ih _ _
    · simp
theorem spec_in (a b c : Int) : spec_l00In.f a b c = some (decide (b ≤ a) && decide (a ≤ c)) := by
  unfold spec_l00In.f
  by_cases h : b ≤ a
  · rw [if_pos h, decide_eq_true h, Bool.true_and]
  · rw [if_neg h, decide_eq_false h, Bool.false_and]
theorem spec_copies (X : List (List Int)) (i : Nat) (hi : i < X.length) (hX : X.length ≤ 1048576) (h2 : (rd_L1 X (i : Int)).length = 2) (hc : rd (rd_L1 X (i : Int)) 1 ≤ 80) (r : List Int × Bool) (n : Nat) :
    ∀ (out : List Int) (j : Int), 0 ≤ j → rd (rd_L1 X (i : Int)) 1 - j = (n : Int) → (80 < out.length + n → out.length ≤ 80 → r = ([], false)) → out.length ≤ 80 →
    (out.length + n ≤ 80 → Ev (fun k => spec_FromRuns.l0 k X (out ++ List.replicate n (rd (rd_L1 X (i : Int)) 0)) ((i + 1 : Nat) : Int)) r) →
    Ev (fun k => spec_FromRuns.l1 k X out (i : Int) j) r := by
  have g1 : (0 : Int) ≤ (i : Int) := by omega
  have g2 : (i : Int) < (X.length : Int) := by omega
  have g3 : (1 : Int) < ((rd_L1 X (i : Int)).length : Int) := by omega
  have g4 : (0 : Int) < ((rd_L1 X (i : Int)).length : Int) := by omega
  have e2 : wrap64 ((i : Int) + 1) = ((i + 1 : Nat) : Int) := by rw [wid (by omega) (by omega)]; omega
  induction n with
  | zero =>
    intro out j hj hn hf hl hx
    refine Ev.step (fun k => ?_) (hx (by omega))
    rw [spec_FromRuns.l1, if_pos g1, if_pos g2, if_pos g3, if_neg (by omega), e2, List.replicate_zero, List.append_nil]
  | succ n ih =>
    intro out j hj hn hf hl hx
    by_cases h : out.length = 80
    · rw [hf (by omega) (by omega)]
      refine ev_ret (fun k => ?_)
      rw [spec_FromRuns.l1, if_pos g1, if_pos g2, if_pos g3, if_pos (by omega), if_pos (by omega)]
    · refine Ev.step (fun k => ?_) (ih (out ++ [rd (rd_L1 X (i : Int)) 0]) (j + 1) (by omega) (by omega) (fun h1 _ => hf (by simp at h1; omega) (by omega)) (by simp; omega) (fun h1 => ?_))
      · rw [spec_FromRuns.l1, if_pos g1, if_pos g2, if_pos g3, if_pos (by omega), if_neg (by omega), if_pos g4, if_pos (by omega), wid (x := j + 1) (by omega) (by omega)]
      · simp at h1
        have := hx (by omega)
        rwa [List.replicate_succ, List.append_cons] at this
theorem fin_ (p : Bool) (out : List Int) : (if p = true then some (out, true) else some (([] : List Int), false)) = some (if p = true then (out, true) else ([], false)) := by cases p <;> rfl
theorem spec_from (X : List (List Int)) (hX : X.length ≤ 1048576) (d : Nat) : ∀ (i : Nat) (out : List Int), X.length - i = d → i ≤ X.length → out.length ≤ 80 → (0 < i → (rd_L1 X ((i - 1 : Nat) : Int)).length = 2) →
    Ev (fun k => spec_FromRuns.l0 k X out (i : Int)) (fromR X d i out) := by
  induction d with
  | zero =>
    intro i out hd hi hl hp
    rw [fromR]
    refine Ev.step (fun k => ?_) (Ev.bind (f := fun k t => if t = true then some (out, true) else some (([] : List Int), false)) (spec_list out (by omega)) ?_)
    · rw [spec_FromRuns.l0, if_neg (by omega)]
    · simp only [fin_]; exact Ev.now _
  | succ d ih =>
    intro i out hd hi hl hp
    rw [fromR]
    have g1 : (0 : Int) ≤ (i : Int) := by omega
    have g2 : (i : Int) < (X.length : Int) := by omega
    have bad : Ev (fun k => spec_FromRuns.j1 k X out (i : Int) true) (([] : List Int), false) := ev_ret (fun k => by rw [spec_FromRuns.j1, if_pos rfl])
    by_cases h2 : (rd_L1 X (i : Int)).length = 2
    case neg =>
      rw [if_neg (by unfold runOk; rw [decide_eq_false h2]; simp)]
      refine Ev.step (fun k => ?_) bad
      rw [spec_FromRuns.l0, if_pos g2, if_pos g1, if_neg (by omega)]
    by_cases hr : 1 ≤ rd (rd_L1 X (i : Int)) 1 ∧ rd (rd_L1 X (i : Int)) 1 ≤ 80
    case neg =>
      rw [if_neg (by
        unfold runOk
        intro h
        simp only [Bool.and_eq_true, decide_eq_true_eq] at h
        omega)]
      refine Ev.step (fun k => ?_) bad
      rw [spec_FromRuns.l0, if_pos g2, if_pos g1, if_pos (by omega), if_pos (by omega), spec_in, Option.bind_some, if_neg (by rw [Bool.and_eq_true, decide_eq_true_eq, decide_eq_true_eq]; exact hr)]
    -- same as the run ahead?
    have hsame : Ev (fun k => spec_FromRuns.j1 k X out (i : Int) (decide (0 < i) && decide (rd (rd_L1 X ((i - 1 : Nat) : Int)) 0 = rd (rd_L1 X (i : Int)) 0))) (if runOk X i out.length = true then fromR X d (i + 1) (out ++ List.replicate (rd (rd_L1 X (i : Int)) 1).toNat (rd (rd_L1 X (i : Int)) 0)) else ([], false)) := by
      cases hs : (decide (0 < i) && decide (rd (rd_L1 X ((i - 1 : Nat) : Int)) 0 = rd (rd_L1 X (i : Int)) 0)) with
      | true =>
        rw [if_neg (by unfold runOk; rw [hs]; simp)]
        exact bad
      | false =>
        refine Ev.step (f := fun k => spec_FromRuns.l1 k X out (i : Int) 0) (fun k => by rw [spec_FromRuns.j1, if_neg (by simp)]) ?_
        refine spec_copies X i (by omega) hX h2 hr.2 _ (rd (rd_L1 X (i : Int)) 1).toNat out 0 (by omega) (by omega) (fun h1 _ => ?_) hl (fun h1 => ?_)
        · rw [if_neg (by
            unfold runOk
            intro h
            simp only [Bool.and_eq_true, decide_eq_true_eq] at h
            omega)]
        · rw [if_pos (by
            unfold runOk
            rw [hs, decide_eq_true h2, decide_eq_true hr.1, decide_eq_true (by omega)]
            rfl)]
          exact ih (i + 1) _ (by omega) (by omega) (by simp; omega) (fun _ => by rw [Nat.add_sub_cancel]; exact h2)
    refine Ev.step (fun k => ?_) hsame
    rw [spec_FromRuns.l0, if_pos g2, if_pos g1, if_pos (by omega), if_pos (by omega), spec_in, Option.bind_some, if_pos (by rw [Bool.and_eq_true, decide_eq_true_eq, decide_eq_true_eq]; exact hr)]
    by_cases h0 : 0 < i
    · have e2 : wrap64 ((i : Int) - 1) = ((i - 1 : Nat) : Int) := by rw [wid (by omega) (by omega)]; omega
      have hp2 := hp h0
      rw [if_pos (by omega), if_pos (by omega), e2, if_pos (by omega), if_pos (by omega), if_pos (by omega), decide_eq_true h0, Bool.true_and]
      congr 1
      rw [Bool.eq_iff_iff, beq_iff_eq, decide_eq_true_eq]
      exact eq_comm
    · rw [if_neg (by omega), decide_eq_false h0, Bool.false_and]
theorem take1 (x : List Int) (h : x.length = 2) : (x.take 1).length = 1 ∧ rd (x.take 1) 0 = rd x 0 := by
  match x, h with
  | [a, b], _ => exact ⟨rfl, rfl⟩
theorem impl_from (X : List (List Int)) (hX : X.length ≤ 1048576) (d : Nat) : ∀ (i : Nat) (out : List Int), X.length - i = d → i ≤ X.length → out.length ≤ 80 → (0 < i → (rd_L1 X ((i - 1 : Nat) : Int)).length = 2) →
    Ev (fun k => impl_FromRuns.l0 k X out X (X.length : Int) (i : Int)) (fromR X d i out) := by
  induction d with
  | zero =>
    intro i out hd hi hl hp
    rw [fromR]
    refine ev_ret (fun k => ?_)
    rw [impl_FromRuns.l0, if_neg (by omega), impl_list, Option.bind_some, fin_]
  | succ d ih =>
    intro i out hd hi hl hp
    rw [fromR]
    have g1 : (0 : Int) ≤ (i : Int) := by omega
    have g2 : (i : Int) < (X.length : Int) := by omega
    have e3 : wrap64 ((i : Int) + 1) = ((i + 1 : Nat) : Int) := by rw [wid (by omega) (by omega)]; omega
    have ew : wrap64 (80 - (out.length : Int)) = 80 - (out.length : Int) := wid (by omega) (by omega)
    by_cases h2 : (rd_L1 X (i : Int)).length = 2
    case neg =>
      rw [if_neg (by unfold runOk; rw [decide_eq_false h2]; simp)]
      refine ev_ret (fun k => ?_)
      rw [impl_FromRuns.l0, if_pos g2, if_pos g1, if_pos g2, if_neg (by omega)]
    by_cases hr : 1 ≤ rd (rd_L1 X (i : Int)) 1 ∧ rd (rd_L1 X (i : Int)) 1 ≤ 80 - (out.length : Int)
    case neg =>
      rw [if_neg (by
        unfold runOk
        intro h
        simp only [Bool.and_eq_true, decide_eq_true_eq] at h
        omega)]
      refine ev_ret (fun k => ?_)
      rw [impl_FromRuns.l0, if_pos g2, if_pos g1, if_pos g2, if_pos (by omega), if_pos (by omega)]
      unfold impl_length_int64.f
      rw [Option.bind_some, ew, impl_range, Option.bind_some, if_neg (by rw [Bool.and_eq_true, decide_eq_true_eq, decide_eq_true_eq]; exact hr)]
    obtain ⟨t1, t2⟩ := take1 _ h2
    have erep : slices_Repeat_int64_int64.f ((rd_L1 X (i : Int)).take 1) (rd (rd_L1 X (i : Int)) 1) = some (List.replicate (rd (rd_L1 X (i : Int)) 1).toNat (rd (rd_L1 X (i : Int)) 0)) := by
      unfold slices_Repeat_int64_int64.f
      rw [if_pos ⟨t1, hr.1, by omega⟩, t2]
    have hlr : (List.replicate (rd (rd_L1 X (i : Int)) 1).toNat (rd (rd_L1 X (i : Int)) 0)).length = (rd (rd_L1 X (i : Int)) 1).toNat := List.length_replicate
    by_cases hs : 0 < i ∧ rd (rd_L1 X ((i - 1 : Nat) : Int)) 0 = rd (rd_L1 X (i : Int)) 0
    · rw [if_neg (by unfold runOk; rw [decide_eq_true hs.1, decide_eq_true hs.2]; simp)]
      have e2 : wrap64 ((i : Int) - 1) = ((i - 1 : Nat) : Int) := by rw [wid (by omega) (by omega)]; omega
      have hp2 := hp hs.1
      have h0 := hs.1
      refine ev_ret (fun k => ?_)
      rw [impl_FromRuns.l0, if_pos g2, if_pos g1, if_pos g2, if_pos (by omega), if_pos (by omega)]
      unfold impl_length_int64.f
      rw [Option.bind_some, ew, impl_range, Option.bind_some, if_pos (by rw [Bool.and_eq_true, decide_eq_true_eq, decide_eq_true_eq]; exact hr), if_pos (by omega), e2, if_pos (by omega), if_pos (by omega), if_pos (by omega), if_pos (by omega), if_pos hs.2]
    · rw [if_pos (by
        unfold runOk
        rw [decide_eq_true h2, decide_eq_true hr.1, decide_eq_true hr.2]
        simp only [Bool.true_and, Bool.not_eq_true', Bool.and_eq_false_iff, decide_eq_false_iff_not]
        by_cases h0 : 0 < i
        · exact .inr (fun h => hs ⟨h0, h⟩)
        · exact .inl h0)]
      have hx := ih (i + 1) (out ++ List.replicate (rd (rd_L1 X (i : Int)) 1).toNat (rd (rd_L1 X (i : Int)) 0)) (by omega) (by omega) (by simp; omega) (fun _ => by rw [Nat.add_sub_cancel]; exact h2)
      refine Ev.step (fun k => ?_) hx
      rw [impl_FromRuns.l0, if_pos g2, if_pos g1, if_pos g2, if_pos (by omega), if_pos (by omega)]
      unfold impl_length_int64.f
      rw [Option.bind_some, ew, impl_range, Option.bind_some, if_pos (by rw [Bool.and_eq_true, decide_eq_true_eq, decide_eq_true_eq]; exact hr)]
      by_cases h0 : 0 < i
      · have e2 : wrap64 ((i : Int) - 1) = ((i - 1 : Nat) : Int) := by rw [wid (by omega) (by omega)]; omega
        have hp2 := hp h0
        rw [if_pos (by omega), e2, if_pos (by omega), if_pos (by omega), if_pos (by omega), if_pos (by omega), if_neg (fun h => hs ⟨h0, h⟩), if_pos (by omega), erep, Option.bind_some, if_pos (by rw [hlr]; omega), e3]
      · rw [if_neg (by omega), if_pos (by omega), erep, Option.bind_some, if_pos (by rw [hlr]; omega), e3]

theorem FnExactFromRuns : laws_FnExactFromRuns.Pure := by
  intro l hl
  refine (?_ : ∃ k, laws_FnExactFromRuns.f k l = some true)
  unfold laws_FnExactFromRuns.f
  suffices h : ∃ k, laws_FnExactFromRuns.Good k l by
    obtain ⟨k, h⟩ := h
    exact ⟨k, if_pos h⟩
  obtain ⟨s, ⟨Ks, es⟩, hh⟩ := szSS l hl.1 (fun x hx => (hl.2 x hx).1)
  rcases hh with hh | ⟨hh, hX, hx⟩
  · exact ⟨Ks, s, es _ (Nat.le_refl _), .inl hh⟩
  · have hs := spec_from l hX l.length 0 [] (by omega) (by omega) (by simp) (fun h => absurd h (by omega))
    have hi := impl_from l hX l.length 0 [] (by omega) (by omega) (by simp) (fun h => absurd h (by omega))
    have hlen := fromR_len l l.length 0 []
    generalize hR : fromR l l.length 0 [] = RR at hs hi hlen
    obtain ⟨R, b⟩ := RR
    replace hlen : R.length ≤ 80 := hlen
    replace hs : Ev (fun k => spec_FromRuns.f k l) (R, b) := hs
    replace hi : Ev (fun k => impl_FromRuns.f k l) (R, b) := hi
    have et := toSS l (by omega) (fun x h => by have := hx x h; omega)
    obtain ⟨m, l', e1, h3, h4⟩ := markSS 1 l (by omega) (fun x h => by have := hx x h; omega) (by omega) (by omega)
    obtain ⟨ys, e2, e3⟩ := mark_held 1 R (by omega) (by omega) (by omega)
    have e4 := eqs R (by omega)
    have e5 := eqsSS l (by omega) (fun x h => by have := hx x h; omega)
    obtain ⟨K, hK⟩ := ev_and et hs
    obtain ⟨K2, hK2⟩ := ev_and hi e1
    obtain ⟨K3, hK3⟩ := ev_and e2 e3
    obtain ⟨K4, hK4⟩ := ev_and e4 e5
    refine ⟨Ks + (K + K2 + K3 + K4), s, es _ (by omega), .inr ⟨hh, R, b, _, ys, m, l', (hK _ (by omega)).1, (hK _ (by omega)).2, (hK2 _ (by omega)).1, (hK4 _ (by omega)).1, (hK4 _ (by omega)).2, (hK2 _ (by omega)).2, by omega, (hK3 _ (by omega)).1, by omega, (hK3 _ (by omega)).2⟩⟩

end Go.Proofs.Ytigbabolmahlaaa.Pure
