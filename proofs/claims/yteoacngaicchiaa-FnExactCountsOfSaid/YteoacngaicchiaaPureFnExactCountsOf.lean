/- The program's CountsOf returns what the reference's returns, for every list, in new memory. Conditions: those of the row alone. -/
import Derived.Test.YteoacngaicchiaaPFnExactCountsOfx3
namespace Go.Proofs.Yteoacngaicchiaa.Pure
open Go.RowKit Go.Proofs.Yteoacngaicchiaa.PFnExactCountsOf Go.Proofs.YteoacngaicchiaaW.PrintWords Go.Proofs.YteoacngaicchiaaW.PrintLast Go.Proofs.YteoacngaicchiaaW.PrintMore
set_option linter.unusedVariables false
set_option linter.unusedSimpArgs false

theorem wid {x : Int} (h1 : -9223372036854775808 ≤ x) (h2 : x < 9223372036854775808) : wrap64 x = x := by unfold wrap64; omega
theorem i64_bd {x : Int} (h : (Lit.int .i64 x).wf = true) : -9223372036854775808 ≤ x ∧ x ≤ 9223372036854775807 := by
  simp only [Lit.wf, IntKind.min, IntKind.max, IntKind.signed, IntKind.bits, Bool.and_eq_true, decide_eq_true_eq, if_true] at h
  omega
/-- A loop's step, its answer known at once. -/
theorem ev_ret {α : Type} {g : Nat → Option α} {r : α} (h : ∀ k, g (k + 1) = some r) : Ev g r := Ev.step (f := fun _ => some r) h (Ev.now r)
theorem ev_all {α : Type} {g : Nat → Option α} {r : α} (h : ∀ k, g k = some r) : Ev g r := ⟨0, fun k _ => h k⟩

theorem getD_set (xs : List Int) (i j : Nat) (v : Int) (hi : i < xs.length) : (xs.set i v).getD j 0 = if i = j then v else xs.getD j 0 := by
  rw [List.getD_eq_getElem?_getD, List.getElem?_set]
  by_cases e : i = j
  · subst e; rw [if_pos rfl, if_pos hi, if_pos rfl]; rfl
  · rw [if_neg e, if_neg e, List.getD_eq_getElem?_getD]
theorem ext_getD {xs ys : List Int} (h : xs.length = ys.length) (he : ∀ j, j < xs.length → xs.getD j 0 = ys.getD j 0) : xs = ys := by
  apply List.ext_getElem h
  intro j h1 h2
  have := he j h1
  rwa [List.getD_eq_getElem?_getD, List.getD_eq_getElem?_getD, List.getElem?_eq_getElem h1, List.getElem?_eq_getElem h2] at this
theorem rd_nat (xs : List Int) (i : Nat) : rd xs (i : Int) = xs.getD i 0 := by unfold rd; rw [Int.toNat_natCast]
theorem rd_mem (xs : List Int) (i : Nat) (h : i < xs.length) : rd xs (i : Int) ∈ xs := by
  rw [rd_nat, List.getD_eq_getElem?_getD, List.getElem?_eq_getElem h]
  exact List.getElem_mem _
theorem take_snoc (xs : List Int) (i : Nat) (h : i < xs.length) : xs.take (i + 1) = xs.take i ++ [rd xs (i : Int)] := by
  rw [List.take_succ_eq_append_getElem h, rd_nat, List.getD_eq_getElem?_getD, List.getElem?_eq_getElem h]
  rfl
theorem drop_cons (xs : List Int) (i : Nat) (h : i < xs.length) : xs.drop i = rd xs (i : Int) :: xs.drop (i + 1) := by
  rw [List.drop_eq_getElem_cons h, rd_nat, List.getD_eq_getElem?_getD, List.getElem?_eq_getElem h]
  rfl

/-- What both ask of uses. -/
def usesOk (l : List Int) : Bool := decide (l.length ≤ 60) && l.all (fun x => decide (0 ≤ x) && decide (x ≤ 63))
theorem usesOk_len {l : List Int} (h : usesOk l = true) : l.length ≤ 60 := by
  unfold usesOk at h
  rw [Bool.and_eq_true] at h
  exact of_decide_eq_true h.1
theorem usesOk_mem {l : List Int} (h : usesOk l = true) {x : Int} (hx : x ∈ l) : 0 ≤ x ∧ x ≤ 63 := by
  unfold usesOk at h
  rw [Bool.and_eq_true, List.all_eq_true] at h
  have := h.2 x hx
  rw [Bool.and_eq_true] at this
  exact ⟨of_decide_eq_true this.1, of_decide_eq_true this.2⟩
theorem impl_uses (l : List Int) : impl_ValidUses.f l = some (usesOk l) := by
  unfold impl_ValidUses.f usesOk impl_allIn.f
  by_cases h : l.length ≤ 60
  · rw [if_pos (by omega), decide_eq_true h, Bool.true_and, Option.bind_some]
  · rw [if_neg (by omega), decide_eq_false h, Bool.false_and]

theorem spec_addr (x : Int) : spec_l02Address.f x = some (decide (0 ≤ x) && decide (x ≤ 63)) := by
  unfold spec_l02Address.f spec_l00In.f
  by_cases h : 0 ≤ x
  · rw [if_pos h, decide_eq_true h, Bool.true_and, Option.bind_some]
  · rw [if_neg h, decide_eq_false h, Bool.false_and, Option.bind_some]
theorem spec_uses_l (l : List Int) (hl : l.length ≤ 140737488355328) (d : Nat) : ∀ (i : Nat), l.length - i = d → i ≤ l.length → Ev (fun k => spec_l02Uses.l0 k l (i : Int)) (decide (l.length ≤ 60) && (l.drop i).all (fun x => decide (0 ≤ x) && decide (x ≤ 63))) := by
  induction d with
  | zero =>
    intro i hd hi
    rw [List.drop_eq_nil_of_le (by omega), List.all_nil, Bool.and_true]
    refine ev_ret (fun k => ?_)
    rw [spec_l02Uses.l0, if_neg (by omega)]
    by_cases h : l.length ≤ 60
    · rw [decide_eq_true h, decide_eq_true (by omega)]
    · rw [decide_eq_false h, decide_eq_false (by omega)]
  | succ d ih =>
    intro i hd hi
    rw [drop_cons l i (by omega), List.all_cons]
    by_cases h : (decide (0 ≤ rd l (i : Int)) && decide (rd l (i : Int) ≤ 63)) = true
    · rw [h, Bool.true_and]
      refine Ev.step (fun k => ?_) (ih (i + 1) (by omega) (by omega))
      rw [spec_l02Uses.l0, if_pos (by omega), if_pos (by omega), spec_addr, Option.bind_some, if_pos h, wid (x := (i : Int) + 1) (by omega) (by omega), show ((i + 1 : Nat) : Int) = (i : Int) + 1 by omega]
    · rw [Bool.eq_false_iff.mpr h, Bool.false_and, Bool.and_false]
      refine ev_ret (fun k => ?_)
      rw [spec_l02Uses.l0, if_pos (by omega), if_pos (by omega), spec_addr, Option.bind_some, if_neg h]
theorem spec_uses (l : List Int) (hl : l.length ≤ 140737488355328) : Ev (fun k => spec_l02Uses.f k l) (usesOk l) := spec_uses_l l hl l.length 0 (by omega) (by omega)

/-! the set of a list: rising, each number once -/
def SS (l : List Int) : Prop := l.Pairwise (· < ·)
theorem ss_eq : ∀ (a b : List Int), SS a → SS b → (∀ x, x ∈ a ↔ x ∈ b) → a = b
  | [], [], _, _, _ => rfl
  | [], y :: b, _, _, h => by have := (h y).2 (List.mem_cons_self ..); cases this
  | x :: a, [], _, _, h => by have := (h x).1 (List.mem_cons_self ..); cases this
  | x :: a, y :: b, ha, hb, h => by
    have ha' := List.pairwise_cons.1 ha
    have hb' := List.pairwise_cons.1 hb
    have e : x = y := by
      rcases List.mem_cons.1 ((h x).1 (List.mem_cons_self ..)) with e | e
      · exact e
      · rcases List.mem_cons.1 ((h y).2 (List.mem_cons_self ..)) with e2 | e2
        · exact e2.symm
        · have h1 := hb'.1 x e
          have h2 := ha'.1 y e2
          omega
    subst e
    rw [ss_eq a b ha'.2 hb'.2 (fun z => ⟨fun hz => ?_, fun hz => ?_⟩)]
    · rcases List.mem_cons.1 ((h z).1 (List.mem_cons_of_mem _ hz)) with e | e
      · have := ha'.1 z hz; omega
      · exact e
    · rcases List.mem_cons.1 ((h z).2 (List.mem_cons_of_mem _ hz)) with e | e
      · have := hb'.1 z hz; omega
      · exact e
theorem compact_mem (ts : List Int) (y : Int) : y ∈ Lib.compact ts ↔ y ∈ ts := by
  unfold Lib.compact Lib.compactUpTo
  rw [List.mem_map]
  constructor
  · rintro ⟨i, hi, rfl⟩
    rw [List.mem_filter, List.mem_range] at hi
    have : ts.toArray[i]! = ts[i]'hi.1 := by simp [hi.1]
    rw [this]
    exact List.getElem_mem _
  · intro hy
    obtain ⟨i, hi, rfl⟩ := List.getElem_of_mem hy
    have key : ∀ (n j : Nat), j ≤ n → (hj : j < ts.length) → ∃ q, q ∈ (List.range ts.length).filter (Lib.keeps ts.toArray) ∧ ts.toArray[q]! = ts[j]'hj := by
      intro n
      induction n with
      | zero =>
        intro j h0 hj
        have : j = 0 := by omega
        subst this
        exact ⟨0, by rw [List.mem_filter, List.mem_range]; exact ⟨hj, Lib.keeps_lt_one _ 0 (by omega)⟩, by simp [hj]⟩
      | succ n ih =>
        intro j h0 hj
        by_cases h : j ≤ n
        · exact ih j h hj
        · have e : j = n + 1 := by omega
          subst e
          by_cases g : ts.toArray[n + 1]! = ts.toArray[n]!
          · obtain ⟨q, hq, he⟩ := ih n (Nat.le_refl _) (by omega)
            refine ⟨q, hq, he.trans ?_⟩
            have e1 : ts.toArray[n + 1]! = ts[n + 1]'hj := by simp [hj]
            have e2 : ts.toArray[n]! = ts[n]'(by omega) := by simp [show n < ts.length by omega]
            rw [← e1, ← e2, g]
          · exact ⟨n + 1, by rw [List.mem_filter, List.mem_range]; exact ⟨hj, Lib.keeps_pos g⟩, by simp [hj]⟩
    exact key i i (Nat.le_refl _) hi
theorem compact_ss (ts : List Int) (h : ts.Pairwise (· ≤ ·)) : SS (Lib.compact ts) := by
  unfold SS Lib.compact Lib.compactUpTo
  rw [List.pairwise_map]
  refine List.Pairwise.imp_of_mem ?_ ((List.pairwise_lt_range (n := ts.length)).filter (Lib.keeps ts.toArray))
  intro i j hi hj hij
  rw [List.mem_filter, List.mem_range] at hi hj
  have hk := hj.2
  unfold Lib.keeps at hk
  have hk := of_decide_eq_true hk
  rcases hk with hk | hk
  · omega
  · rw [List.pairwise_iff_getElem] at h
    have e1 : ts.toArray[i]! = ts[i]'hi.1 := by simp [hi.1]
    have e2 : ts.toArray[j]! = ts[j]'hj.1 := by simp [hj.1]
    have e3 : ts.toArray[j - 1]! = ts[j - 1]'(by omega) := by simp [show j - 1 < ts.length by omega]
    rw [e2, e3] at hk
    rw [e1, e2]
    have l1 : ts[j - 1]'(by omega) ≤ ts[j]'hj.1 := h (j - 1) j (by omega) hj.1 (by omega)
    have l2 : ts[i]'hi.1 ≤ ts[j - 1]'(by omega) := by
      by_cases e : i = j - 1
      · subst e; exact Int.le_refl _
      · exact h i (j - 1) hi.1 (by omega) (by omega)
    omega
theorem setL_ss (l : List Int) : SS (SetOf.setL l) := by
  unfold SetOf.setL
  refine compact_ss _ ?_
  have := List.pairwise_mergeSort (le := fun x y : Int => decide (x ≤ y)) (fun a b c h1 h2 => by simp at h1 h2 ⊢; omega) (fun a b => by simp; omega) l
  exact this.imp (fun h => by simpa using h)
theorem setL_mem (l : List Int) (y : Int) : y ∈ SetOf.setL l ↔ y ∈ l := by
  unfold SetOf.setL
  rw [compact_mem, List.mem_mergeSort]
theorem setL_len (l : List Int) : (SetOf.setL l).length ≤ l.length := by
  unfold SetOf.setL Lib.compact Lib.compactUpTo
  rw [List.length_map]
  refine Nat.le_trans (List.length_filter_le _ _) ?_
  rw [List.length_range, List.length_mergeSort]
  exact Nat.le_refl _
def ins (n : Int) : List Int → List Int
  | [] => [n]
  | x :: r => if x > n then n :: x :: r else if x = n then x :: r else x :: ins n r
theorem ins_mem (n y : Int) : ∀ l, y ∈ ins n l ↔ y = n ∨ y ∈ l
  | [] => by simp [ins]
  | x :: r => by
    rw [ins]
    split
    · simp
    · split
      · rename_i h; subst h; simp
      · rw [List.mem_cons, ins_mem n y r, List.mem_cons]
        constructor
        · rintro (h | h | h)
          · exact .inr (.inl h)
          · exact .inl h
          · exact .inr (.inr h)
        · rintro (h | h | h)
          · exact .inr (.inl h)
          · exact .inl h
          · exact .inr (.inr h)
theorem ins_ss (n : Int) : ∀ l, SS l → SS (ins n l)
  | [], _ => List.pairwise_singleton _ _
  | x :: r, h => by
    have h' := List.pairwise_cons.1 h
    rw [ins]
    split
    · refine List.pairwise_cons.2 ⟨fun y hy => ?_, h⟩
      rcases List.mem_cons.1 hy with e | e
      · omega
      · have := h'.1 y e; omega
    · split
      · exact h
      · refine List.pairwise_cons.2 ⟨fun y hy => ?_, ins_ss n r h'.2⟩
        rcases (ins_mem n y r).1 hy with e | e
        · omega
        · exact h'.1 y e
theorem ins_len (n : Int) : ∀ l, (ins n l).length ≤ l.length + 1
  | [] => by simp [ins]
  | x :: r => by
    rw [ins]
    split
    · simp
    · split
      · simp
      · have := ins_len n r; simp; omega
theorem ins_setL (n : Int) (l : List Int) : ins n (SetOf.setL l) = SetOf.setL (l ++ [n]) := by
  refine ss_eq _ _ (ins_ss _ _ (setL_ss _)) (setL_ss _) (fun x => ?_)
  rw [ins_mem, setL_mem, setL_mem, List.mem_append, List.mem_singleton]
  exact Or.comm
theorem setL_nil : SetOf.setL [] = [] := List.eq_nil_of_length_eq_zero (by have := setL_len []; simpa using this)
theorem setL_one (n : Int) : SetOf.setL [n] = [n] := by
  have := ins_setL n []
  rw [setL_nil, List.nil_append] at this
  exact this.symm
theorem impl_set (l : List Int) (h : l.length ≤ 1048576) : impl_setOf.f l = some (SetOf.setL l) := by
  unfold impl_setOf.f
  rw [if_pos h]

theorem spec_put_done (l : List Int) (n : Int) (hl : l.length ≤ 1000000) (d : Nat) : ∀ (i : Nat) (acc : List Int), l.length - i = d → i ≤ l.length → acc.length ≤ i + 1 → Ev (fun k => spec_l00Put.l0 k l n acc true (i : Int)) (acc ++ l.drop i) := by
  induction d with
  | zero =>
    intro i acc hd hi ha
    rw [List.drop_eq_nil_of_le (by omega), List.append_nil]
    exact ev_ret (fun k => by rw [spec_l00Put.l0, if_neg (by omega), if_pos rfl])
  | succ d ih =>
    intro i acc hd hi ha
    have hx := ih (i + 1) (acc ++ [rd l (i : Int)]) (by omega) (by omega) (by simp; omega)
    rw [← List.append_cons, ← drop_cons l i (by omega), show ((i + 1 : Nat) : Int) = (i : Int) + 1 by omega] at hx
    refine Ev.step (fun k => by rw [spec_l00Put.l0, if_pos (by omega), if_pos rfl]) (Ev.step (fun k => ?_) hx)
    rw [spec_l00Put.j1, if_neg (by decide), if_pos (by omega), if_pos (by omega), if_pos (by omega), wid (x := (i : Int) + 1) (by omega) (by omega)]
theorem spec_put_l (l : List Int) (n : Int) (hl : l.length ≤ 1000000) (d : Nat) : ∀ (i : Nat) (acc : List Int), l.length - i = d → i ≤ l.length → acc.length ≤ i → Ev (fun k => spec_l00Put.l0 k l n acc false (i : Int)) (acc ++ ins n (l.drop i)) := by
  induction d with
  | zero =>
    intro i acc hd hi ha
    rw [List.drop_eq_nil_of_le (by omega), ins]
    exact ev_ret (fun k => by rw [spec_l00Put.l0, if_neg (by omega), if_neg (by decide), if_pos (by omega)])
  | succ d ih =>
    intro i acc hd hi ha
    have w1 : wrap64 ((i : Int) + 1) = ((i + 1 : Nat) : Int) := by rw [wid (by omega) (by omega)]; omega
    rw [drop_cons l i (by omega), ins]
    by_cases h : rd l (i : Int) ≥ n
    · refine Ev.step (fun k => by rw [spec_l00Put.l0, if_pos (by omega), if_neg (by decide), if_pos (by omega), decide_eq_true h]) ?_
      by_cases g : rd l (i : Int) > n
      · rw [if_pos g]
        have hx := spec_put_done l n hl d (i + 1) (acc ++ [n] ++ [rd l (i : Int)]) (by omega) (by omega) (by simp; omega)
        rw [show acc ++ n :: rd l (i : Int) :: l.drop (i + 1) = acc ++ [n] ++ [rd l (i : Int)] ++ l.drop (i + 1) by simp]
        refine Ev.step (fun k => ?_) hx
        rw [spec_l00Put.j1, if_pos rfl, if_pos (by omega), if_pos (by omega), if_pos g, if_pos (by omega), Option.bind_some, if_pos (by simp; omega), w1]
      · rw [if_neg g, if_pos (by omega)]
        have hx := spec_put_done l n hl d (i + 1) (acc ++ [rd l (i : Int)]) (by omega) (by omega) (by simp; omega)
        rw [← List.append_cons] at hx
        refine Ev.step (fun k => ?_) hx
        rw [spec_l00Put.j1, if_pos rfl, if_pos (by omega), if_pos (by omega), if_neg g, if_pos (by omega), w1]
    · rw [if_neg (by omega), if_neg (by omega)]
      have hx := ih (i + 1) (acc ++ [rd l (i : Int)]) (by omega) (by omega) (by simp; omega)
      rw [← List.append_cons] at hx
      refine Ev.step (fun k => by rw [spec_l00Put.l0, if_pos (by omega), if_neg (by decide), if_pos (by omega), decide_eq_false h]) (Ev.step (fun k => ?_) hx)
      rw [spec_l00Put.j1, if_neg (by decide), if_pos (by omega), if_pos (by omega), if_pos (by omega), w1]
theorem spec_put (l : List Int) (n : Int) (hl : l.length ≤ 1000000) : Ev (fun k => spec_l00Put.f k l n) (ins n l) := by
  have := spec_put_l l n hl l.length 0 [] (by omega) (by omega) (by simp)
  exact this

theorem spec_set_l (l : List Int) (hl : l.length ≤ 1000000) (d : Nat) : ∀ (i : Nat), l.length - i = d → i ≤ l.length → Ev (fun k => spec_l02Set.l0 k l (SetOf.setL (l.take i)) (i : Int)) (SetOf.setL l) := by
  induction d with
  | zero =>
    intro i hd hi
    rw [List.take_of_length_le (by omega)]
    exact ev_ret (fun k => by rw [spec_l02Set.l0, if_neg (by omega)])
  | succ d ih =>
    intro i hd hi
    have hx := ih (i + 1) (by omega) (by omega)
    rw [take_snoc l i (by omega), ← ins_setL, show ((i + 1 : Nat) : Int) = (i : Int) + 1 by omega] at hx
    have hs := setL_len (l.take i)
    rw [List.length_take] at hs
    refine Ev.step (fun k => by rw [spec_l02Set.l0, if_pos (by omega), if_pos (by omega), wid (x := (i : Int) + 1) (by omega) (by omega)]) (Ev.bind (spec_put _ _ (by omega)) hx)
theorem spec_set (l : List Int) (hl : l.length ≤ 1000000) : Ev (fun k => spec_l02Set.f k l) (SetOf.setL l) := by
  have := spec_set_l l hl l.length 0 (by omega) (by omega)
  rw [List.take_zero, setL_nil] at this
  exact this

theorem toInts_l (l : List Int) (hl : l.length ≤ 140737488355328) (d : Nat) : ∀ (i : Nat) (xs : List Int), xs.length = l.length → (∀ j, j < i → xs.getD j 0 = l.getD j 0) → l.length - i = d → i ≤ l.length →
    Ev (fun k => laws_toInt64S.l0 k l xs (i : Int)) l := by
  induction d with
  | zero =>
    intro i xs hx h hd hi
    have e : xs = l := ext_getD hx (fun j hj => h j (by omega))
    subst e
    exact ev_ret (fun k => by rw [laws_toInt64S.l0, if_neg (by omega)])
  | succ d ih =>
    intro i xs hx h hd hi
    refine Ev.step (fun k => ?_) (ih (i + 1) (xs.set i (rd l (i : Int))) (by rw [List.length_set, hx]) (fun j hj => ?_) (by omega) (by omega))
    · rw [laws_toInt64S.l0, if_pos (by omega), if_pos (by omega), if_pos (by omega), Int.toNat_natCast, wid (x := (i : Int) + 1) (by omega) (by omega), show ((i + 1 : Nat) : Int) = (i : Int) + 1 by omega]
    · rw [getD_set _ _ _ _ (by omega)]
      by_cases e : i = j
      · subst e; rw [if_pos rfl, rd_nat]
      · rw [if_neg e]; exact h j (by omega)
theorem toInts (l : List Int) (hl : l.length ≤ 35184372088832) : Ev (fun k => laws_toInt64S.f k l) l := by
  unfold laws_toInt64S.f
  simp only [if_pos (show (0 : Int) ≤ (l.length : Int) by omega), Int.toNat_natCast, if_pos hl]
  exact toInts_l l (by omega) l.length 0 _ (by rw [List.length_replicate]) (fun j hj => by omega) (by omega) (by omega)

/-- A list is equal to itself. -/
theorem eqs_l (a : List Int) (ha : a.length ≤ 140737488355328) (d : Nat) : ∀ (i : Int), 0 ≤ i → (a.length : Int) - i = d → Ev (fun k => laws_eqInt64S.l0 k a a i) true := by
  induction d with
  | zero => intro i h0 hd; exact ev_ret (fun k => by rw [laws_eqInt64S.l0, if_neg (by omega)])
  | succ d ih =>
    intro i h0 hd
    refine Ev.step (fun k => ?_) (ih (i + 1) (by omega) (by omega))
    rw [laws_eqInt64S.l0, if_pos (by omega), if_pos h0, if_pos (by omega), if_pos rfl, wid (x := i + 1) (by omega) (by omega)]
theorem eqs (a : List Int) (ha : a.length ≤ 140737488355328) : Ev (fun k => laws_eqInt64S.f k a a) true := by
  unfold laws_eqInt64S.f
  simp only [if_true]
  exact eqs_l a ha a.length 0 (by omega) (by omega)

/-- A list whose numbers go up one by one from a on, as far as index i. -/
def Upto (a : Int) (n : Nat) (xs : List Int) (i : Nat) : Prop := xs.length = n ∧ ∀ j, j < i → xs.getD j 0 = a + (j : Int)
theorem upto_set {a : Int} {n i : Nat} {xs : List Int} (h : Upto a n xs i) (hi : i < n) : Upto a n (xs.set i (a + (i : Int))) (i + 1) := by
  refine ⟨by rw [List.length_set]; exact h.1, fun j hj => ?_⟩
  have hl := h.1
  rw [List.getD_eq_getElem?_getD, List.getElem?_set]
  by_cases e : i = j
  · subst e
    rw [if_pos rfl, if_pos (by omega)]
    rfl
  · rw [if_neg e, ← List.getD_eq_getElem?_getD]
    exact h.2 j (by omega)
theorem mark_l (a : Int) (n : Nat) (h1 : 0 ≤ a) (h2 : a ≤ 4611686018427387904) (hn : n ≤ 140737488355328) (d : Nat) : ∀ (i : Nat) (xs : List Int), Upto a n xs i → n - i = d → i ≤ n →
    ∃ ys, Ev (fun k => laws_markInt64S.l0 k xs (a + (i : Int)) (i : Int)) (a + (n : Int), ys) ∧ Upto a n ys n := by
  induction d with
  | zero =>
    intro i xs h hd hi
    have e : i = n := by omega
    subst e
    have hl := h.1
    exact ⟨xs, ev_ret (fun k => by rw [laws_markInt64S.l0, if_neg (by omega)]), h⟩
  | succ d ih =>
    intro i xs h hd hi
    have hl := h.1
    obtain ⟨ys, e, hy⟩ := ih (i + 1) _ (upto_set h (by omega)) (by omega) (by omega)
    refine ⟨ys, Ev.step (fun k => ?_) e, hy⟩
    rw [laws_markInt64S.l0, if_pos (by omega), if_pos (by omega), wid (x := a + (i : Int) + 1) (by omega) (by omega), wid (x := (i : Int) + 1) (by omega) (by omega), Int.toNat_natCast]
    rw [show a + ((i + 1 : Nat) : Int) = a + (i : Int) + 1 by omega, show ((i + 1 : Nat) : Int) = (i : Int) + 1 by omega]
theorem mark_I (a : Int) (xs : List Int) (h1 : 0 ≤ a) (h2 : a ≤ 4611686018427387904) (hn : xs.length ≤ 140737488355328) :
    ∃ ys, Ev (fun k => laws_markInt64S.f k xs a) (a + (xs.length : Int), ys) ∧ Upto a xs.length ys xs.length := by
  obtain ⟨ys, e, hy⟩ := mark_l a xs.length h1 h2 hn xs.length 0 xs ⟨rfl, fun j hj => by omega⟩ (by omega) (by omega)
  exact ⟨ys, by simpa [laws_markInt64S.f] using e, hy⟩

theorem held_l (a : Int) (n : Nat) (ys : List Int) (h1 : 0 ≤ a) (h2 : a ≤ 4611686018427387904) (hn : n ≤ 140737488355328) (h : Upto a n ys n) (d : Nat) : ∀ (i : Nat), n - i = d → i ≤ n →
    Ev (fun k => laws_heldInt64S.l0 k ys (a + (i : Int)) (i : Int)) (a + (n : Int)) := by
  have hl := h.1
  induction d with
  | zero =>
    intro i hd hi
    have e : i = n := by omega
    subst e
    exact ev_ret (fun k => by rw [laws_heldInt64S.l0, if_neg (by omega)])
  | succ d ih =>
    intro i hd hi
    refine Ev.step (fun k => ?_) (ih (i + 1) (by omega) (by omega))
    have hr : rd ys (i : Int) = a + (i : Int) := by unfold rd; rw [Int.toNat_natCast]; exact h.2 i (by omega)
    rw [laws_heldInt64S.l0, if_pos (by omega), if_pos (by omega), if_pos hr, wid (x := a + (i : Int) + 1) (by omega) (by omega), wid (x := (i : Int) + 1) (by omega) (by omega)]
    rw [show a + ((i + 1 : Nat) : Int) = a + (i : Int) + 1 by omega, show ((i + 1 : Nat) : Int) = (i : Int) + 1 by omega]
/-- What is marked is held. -/
theorem mark_held (a : Int) (xs : List Int) (h1 : 0 ≤ a) (h2 : a ≤ 4611686018427387904) (hn : xs.length ≤ 140737488355328) :
    ∃ ys, Ev (fun k => laws_markInt64S.f k xs a) (a + (xs.length : Int), ys) ∧ Ev (fun k => laws_heldInt64S.f k ys a) (a + (xs.length : Int)) := by
  obtain ⟨ys, e, hy⟩ := mark_l a xs.length h1 h2 hn xs.length 0 xs ⟨rfl, fun j hj => by omega⟩ (by omega) (by omega)
  have e2 := held_l a xs.length ys h1 h2 hn hy xs.length 0 (by omega) (by omega)
  refine ⟨ys, ?_, ?_⟩
  · simpa [laws_markInt64S.f] using e
  · simpa [laws_heldInt64S.f] using e2

def cnt (l : List Int) (x : Int) : Nat := (l.filter (fun y => decide (y = x))).length
theorem cnt_nil (x : Int) : cnt [] x = 0 := rfl
theorem cnt_cons (y x : Int) (l : List Int) : cnt (y :: l) x = (if y = x then 1 else 0) + cnt l x := by
  unfold cnt
  rw [List.filter_cons]
  by_cases h : y = x
  · rw [if_pos h, decide_eq_true h, if_pos rfl, List.length_cons]; omega
  · rw [if_neg h, decide_eq_false h, if_neg (by decide)]; omega
theorem cnt_drop (l : List Int) (x : Int) (j : Nat) (h : j < l.length) : cnt (l.drop j) x = (if rd l (j : Int) = x then 1 else 0) + cnt (l.drop (j + 1)) x :=
  (congrArg (fun q => cnt q x) (drop_cons l j h)).trans (cnt_cons _ _ _)
theorem cnt_le (l : List Int) (x : Int) : cnt l x ≤ l.length := List.length_filter_le _ _
attribute [irreducible] cnt
theorem spec_cnt_l (l s : List Int) (i : Nat) (acc : List Int) (hl : l.length ≤ 60) (hi : i < s.length) (hs : s.length ≤ 60) (ha : acc.length ≤ i) (r : List Int × Bool)
    (h : Ev (fun k => spec_CountsOf.l0 k l s (acc ++ [(cnt l (rd s (i : Int)) : Int)]) ((i + 1 : Nat) : Int)) r) (d : Nat) : ∀ (j : Nat) (c : Nat), l.length - j = d → j ≤ l.length → c + cnt (l.drop j) (rd s (i : Int)) = cnt l (rd s (i : Int)) →
    Ev (fun k => spec_CountsOf.l1 k l s acc (i : Int) (c : Int) (j : Int)) r := by
  induction d with
  | zero =>
    intro j c hd hj
    have hjl : l.length ≤ j := by omega
    intro hc
    rw [List.drop_eq_nil_of_le hjl] at hc
    rw [cnt_nil, Nat.add_zero] at hc
    have hcb : c ≤ 60 := by rw [hc]; exact Nat.le_trans (cnt_le _ _) hl
    rw [← hc] at h
    clear hc
    refine Ev.step (fun k => ?_) h
    rw [spec_CountsOf.l1, if_neg (by omega), if_pos (by omega), wid (x := (i : Int) + 1) (by omega) (by omega), show ((i + 1 : Nat) : Int) = (i : Int) + 1 by omega]
  | succ d ih =>
    intro j c hd hj
    have hjl : j < l.length := by omega
    have w1 : wrap64 ((j : Int) + 1) = ((j + 1 : Nat) : Int) := by rw [wid (by omega) (by omega)]; omega
    intro hc
    have hcb : c ≤ 60 := Nat.le_trans (Nat.le.intro hc) (Nat.le_trans (cnt_le l (rd s (i : Int))) hl)
    rw [cnt_drop l (rd s (i : Int)) j hjl] at hc
    by_cases g : rd l (j : Int) = rd s (i : Int)
    · rw [if_pos g, ← Nat.add_assoc] at hc
      have hc2 := fun h1 h2 => ih (j + 1) (c + 1) h1 h2 hc
      clear hc ih h
      refine Ev.step (fun k => ?_) (hc2 (by omega) (by omega))
      rw [spec_CountsOf.l1, if_pos (by omega), if_pos (by omega), if_pos (by omega), if_pos (by omega), if_pos g, w1, wid (x := (c : Int) + 1) (by omega) (by omega), show ((c + 1 : Nat) : Int) = (c : Int) + 1 by omega]
    · rw [if_neg g, Nat.zero_add] at hc
      have hc2 := fun h1 h2 => ih (j + 1) c h1 h2 hc
      clear hc ih h
      refine Ev.step (fun k => ?_) (hc2 (by omega) (by omega))
      rw [spec_CountsOf.l1, if_pos (by omega), if_pos (by omega), if_pos (by omega), if_pos (by omega), if_neg g, w1]
theorem impl_cnt_l (l s : List Int) (i : Nat) (acc : List Int) (hl : l.length ≤ 60) (hi : i < s.length) (hs : s.length ≤ 60) (ha : acc.length ≤ i) (r : List Int × Bool)
    (h : Ev (fun k => impl_CountsOf.l0 k l (acc ++ [(cnt l (rd s (i : Int)) : Int)]) s (s.length : Int) ((i + 1 : Nat) : Int)) r) (d : Nat) : ∀ (j : Nat) (c : Nat), l.length - j = d → j ≤ l.length → c + cnt (l.drop j) (rd s (i : Int)) = cnt l (rd s (i : Int)) →
    Ev (fun k => impl_CountsOf.l1 k l acc (rd s (i : Int)) (c : Int) s (s.length : Int) (i : Int) l (l.length : Int) (j : Int)) r := by
  induction d with
  | zero =>
    intro j c hd hj
    have hjl : l.length ≤ j := by omega
    intro hc
    rw [List.drop_eq_nil_of_le hjl] at hc
    rw [cnt_nil, Nat.add_zero] at hc
    have hcb : c ≤ 60 := by rw [hc]; exact Nat.le_trans (cnt_le _ _) hl
    rw [← hc] at h
    clear hc
    refine Ev.step (fun k => ?_) h
    rw [impl_CountsOf.l1, if_neg (by omega), if_pos (by omega), wid (x := (i : Int) + 1) (by omega) (by omega), show ((i + 1 : Nat) : Int) = (i : Int) + 1 by omega]
  | succ d ih =>
    intro j c hd hj
    have hjl : j < l.length := by omega
    have w1 : wrap64 ((j : Int) + 1) = ((j + 1 : Nat) : Int) := by rw [wid (by omega) (by omega)]; omega
    intro hc
    have hcb : c ≤ 60 := Nat.le_trans (Nat.le.intro hc) (Nat.le_trans (cnt_le l (rd s (i : Int))) hl)
    rw [cnt_drop l (rd s (i : Int)) j hjl] at hc
    by_cases g : rd l (j : Int) = rd s (i : Int)
    · rw [if_pos g, ← Nat.add_assoc] at hc
      have hc2 := fun h1 h2 => ih (j + 1) (c + 1) h1 h2 hc
      clear hc ih h
      refine Ev.step (fun k => ?_) (hc2 (by omega) (by omega))
      rw [impl_CountsOf.l1, if_pos (by omega), if_pos (by omega), if_pos (by omega), if_pos g.symm, w1, wid (x := (c : Int) + 1) (by omega) (by omega), show ((c + 1 : Nat) : Int) = (c : Int) + 1 by omega]
    · rw [if_neg g, Nat.zero_add] at hc
      have hc2 := fun h1 h2 => ih (j + 1) c h1 h2 hc
      clear hc ih h
      refine Ev.step (fun k => ?_) (hc2 (by omega) (by omega))
      rw [impl_CountsOf.l1, if_pos (by omega), if_pos (by omega), if_pos (by omega), if_neg (fun e => g e.symm), w1]
theorem spec_cs_l (l s : List Int) (hl : l.length ≤ 60) (hs : s.length ≤ 60) (d : Nat) : ∀ (i : Nat) (acc : List Int), s.length - i = d → i ≤ s.length → acc.length ≤ i → Ev (fun k => spec_CountsOf.l0 k l s acc (i : Int)) (acc ++ (s.drop i).map (fun x => (cnt l x : Int)), true) := by
  induction d with
  | zero =>
    intro i acc hd hi ha
    rw [List.drop_eq_nil_of_le (by omega), List.map_nil, List.append_nil]
    exact ev_ret (fun k => by rw [spec_CountsOf.l0, if_neg (by omega)])
  | succ d ih =>
    intro i acc hd hi ha
    have hx := ih (i + 1) (acc ++ [(cnt l (rd s (i : Int)) : Int)]) (by omega) (by omega) (by simp; omega)
    rw [← List.append_cons] at hx
    rw [drop_cons s i (by omega), List.map_cons]
    have hy := spec_cnt_l l s i acc hl (by omega) hs ha _ hx l.length 0 0 (by omega) (by omega) (by rw [List.drop_zero, Nat.zero_add])
    rw [show ((0 : Nat) : Int) = 0 from rfl] at hy
    exact Ev.step (fun k => by rw [spec_CountsOf.l0, if_pos (by omega)]) hy
theorem impl_cs_l (l s : List Int) (hl : l.length ≤ 60) (hs : s.length ≤ 60) (d : Nat) : ∀ (i : Nat) (acc : List Int), s.length - i = d → i ≤ s.length → acc.length ≤ i → Ev (fun k => impl_CountsOf.l0 k l acc s (s.length : Int) (i : Int)) (acc ++ (s.drop i).map (fun x => (cnt l x : Int)), true) := by
  induction d with
  | zero =>
    intro i acc hd hi ha
    rw [List.drop_eq_nil_of_le (by omega), List.map_nil, List.append_nil]
    exact ev_ret (fun k => by rw [impl_CountsOf.l0, if_neg (by omega)])
  | succ d ih =>
    intro i acc hd hi ha
    have hx := ih (i + 1) (acc ++ [(cnt l (rd s (i : Int)) : Int)]) (by omega) (by omega) (by simp; omega)
    rw [← List.append_cons] at hx
    rw [drop_cons s i (by omega), List.map_cons]
    have hy := impl_cnt_l l s i acc hl (by omega) hs ha _ hx l.length 0 0 (by omega) (by omega) (by rw [List.drop_zero, Nat.zero_add])
    rw [show ((0 : Nat) : Int) = 0 from rfl] at hy
    exact Ev.step (fun k => by rw [impl_CountsOf.l0, if_pos (by omega), if_pos (by omega), if_pos (by omega)]) hy
theorem both (l : List Int) (hl : l.length ≤ 1048576) : ∃ r, Ev (fun k => spec_CountsOf.f k l) r ∧ Ev (fun k => impl_CountsOf.f k l) r ∧ r.1.length ≤ 1000000 := by
  unfold spec_CountsOf.f impl_CountsOf.f
  simp only [impl_uses, Option.bind_some]
  by_cases h : usesOk l = true
  · have hn := usesOk_len h
    have hsl := setL_len l
    refine ⟨((SetOf.setL l).map (fun x => (cnt l x : Int)), true), ?_, ?_, by simp; omega⟩
    · refine Ev.bind (spec_uses l (by omega)) ?_
      simp only [if_pos h]
      exact Ev.bind (spec_set l (by omega)) (spec_cs_l l (SetOf.setL l) hn (by omega) _ 0 [] rfl (by omega) (by simp))
    · simp only [if_pos h, impl_set l (by omega), Option.bind_some]
      exact impl_cs_l l (SetOf.setL l) hn (by omega) _ 0 [] rfl (by omega) (by simp)
  · refine ⟨([], false), ?_, ?_, by simp⟩
    · refine Ev.bind (spec_uses l (by omega)) ?_
      simp only [if_neg h]
      exact Ev.now _
    · simp only [if_neg h]
      exact Ev.now _
theorem FnExactCountsOf : laws_FnExactCountsOf.Pure := by
  intro l  _ hl _ 
  refine Ev.rounds (r := true) ?_
  unfold laws_FnExactCountsOf.f
  by_cases hb : (l.length : Int) > 1048576
  · simp only [if_pos hb]; exact Ev.now _
  simp only [if_neg hb]
  obtain ⟨r, es, ei, hr⟩ := both l  (by omega)
  have et := toInts l (by omega)
  obtain ⟨ys, hm, hh⟩ := mark_held 1 r.1 (by omega) (by omega) (by omega)
  obtain ⟨zs, hm2, _⟩ := mark_held 1 l (by omega) (by omega) (by omega)
  refine Ev.bind et (Ev.bind es (Ev.bind et (Ev.bind ei (Ev.bind (eqs _ (by omega)) ?_))))
  simp only [bne_self_eq_false, if_true]
  refine Ev.step (fun k => by rw [laws_FnExactCountsOf.j0, if_neg (by decide)]) ?_
  refine Ev.bind et (Ev.bind (eqs _ (by omega)) ?_)
  simp only [if_true]
  refine Ev.bind hm2 ?_
  simp only [if_neg (show ¬ (1 + (l.length : Int) < 0) by omega)]
  refine Ev.bind (eqs _ (by omega)) ?_
  simp only [bne_self_eq_false, if_true]
  refine Ev.step (fun k => by rw [laws_FnExactCountsOf.j1, if_neg (by decide)]) ?_
  refine Ev.bind hm (Ev.bind hh ?_)
  simp only [if_neg (show ¬ (1 + (r.1.length : Int) < 0) by omega), if_true]
  refine Ev.bind et (Ev.bind ei (Ev.bind (eqs _ (by omega)) ?_))
  simp only [bne_self_eq_false, if_true]
  refine Ev.step (fun k => by rw [laws_FnExactCountsOf.j2, if_neg (by decide)]) ?_
  refine Ev.bind hh (ev_all fun k => ?_)
  rw [if_neg (by omega), if_pos rfl]


end Go.Proofs.Yteoacngaicchiaa.Pure
