/- The program's EmptyContents returns what the reference's returns, for every policy, leaves it as it was and returns new memory. Conditions: those of the row alone. -/
import Derived.Test.YteoacngaicchiaaPFnExactEmptyContentsy
namespace Go.Proofs.Yteoacngaicchiaa.Pure
open Go.RowKit Go.Proofs.Yteoacngaicchiaa.PFnExactEmptyContents Go.Proofs.YteoacngaicchiaaW.PrintWords Go.Proofs.YteoacngaicchiaaW.PrintLast Go.Proofs.YteoacngaicchiaaW.PrintMore
set_option linter.unusedVariables false
set_option linter.unusedSimpArgs false

theorem wid {x : Int} (h1 : -9223372036854775808 ≤ x) (h2 : x < 9223372036854775808) : wrap64 x = x := by unfold wrap64; omega
theorem i64_bd {x : Int} (h : (Lit.int .i64 x).wf = true) : -9223372036854775808 ≤ x ∧ x ≤ 9223372036854775807 := by
  simp only [Lit.wf, IntKind.min, IntKind.max, IntKind.signed, IntKind.bits, Bool.and_eq_true, decide_eq_true_eq, if_true] at h
  omega
/-- A loop's step, its answer known at once. -/
theorem ev_ret {α : Type} {g : Nat → Option α} {r : α} (h : ∀ k, g (k + 1) = some r) : Ev g r := Ev.step (f := fun _ => some r) h (Ev.now r)
theorem ev_all {α : Type} {g : Nat → Option α} {r : α} (h : ∀ k, g k = some r) : Ev g r := ⟨0, fun k _ => h k⟩

theorem ev_and {α β : Type} {g : Nat → Option α} {f : Nat → Option β} {a : α} {b : β} (h : Ev g a) (k : Ev f b) : ∃ K, ∀ n, K ≤ n → g n = some a ∧ f n = some b := by
  obtain ⟨K, h⟩ := h
  obtain ⟨K2, k⟩ := k
  exact ⟨max K K2, fun n hn => ⟨h n (Nat.le_trans (Nat.le_max_left ..) hn), k n (Nat.le_trans (Nat.le_max_right ..) hn)⟩⟩
theorem rdL_app (A : List (List Int)) (x : List Int) (B : List (List Int)) : (A ++ x :: B).getD A.length [] = x := by
  rw [List.getD_eq_getElem?_getD, List.getElem?_append_right (Nat.le_refl _), Nat.sub_self]
  rfl
theorem setL_app (A : List (List Int)) (x y : List Int) (B : List (List Int)) : (A ++ x :: B).set A.length y = A ++ y :: B := by
  rw [List.set_append_right _ _ (Nat.le_refl _), Nat.sub_self]
  rfl

/-! how many cells a row of rows has, counted down: what is counted to its end is not long -/
theorem szSS_l (X : List (List Int)) (hX : X.length ≤ 1048576) (d : Nat) : ∀ (i : Nat) (a : Int), X.length - i = d → i ≤ X.length → 0 ≤ a → a ≤ 1048576 → (∀ x ∈ X.drop i, x.length ≤ 9223372036854775807) →
    ∃ s : Int, Ev (fun k => laws_szInt64SS.l0 k X a (i : Int)) s ∧ (s < 0 ∨ (0 ≤ s ∧ s ≤ 1048576 ∧ ∀ x ∈ X.drop i, x.length ≤ 1048576)) := by
  induction d with
  | zero =>
    intro i a hd hi h0 h1 hx
    refine ⟨a, ev_ret (fun k => by rw [laws_szInt64SS.l0, if_neg (by omega)]), .inr ⟨h0, h1, ?_⟩⟩
    rw [List.drop_eq_nil_of_le (by omega)]
    intro x hx; cases hx
  | succ d ih =>
    intro i a hd hi h0 h1 hx
    have hlt : i < X.length := by omega
    rw [List.drop_eq_getElem_cons hlt] at hx ⊢
    have hrow : rd_L1 X (i : Int) = X[i] := by unfold rd_L1; rw [Int.toNat_natCast, List.getD_eq_getElem?_getD, List.getElem?_eq_getElem hlt]; rfl
    have hl := hx _ (List.mem_cons_self ..)
    have hw : wrap64 (a - (X[i].length : Int)) = a - (X[i].length : Int) := wid (by omega) (by omega)
    by_cases h : a - (X[i].length : Int) < 0
    · refine ⟨-1, ev_ret (fun k => ?_), .inl (by omega)⟩
      rw [laws_szInt64SS.l0, if_pos (by omega), if_pos (by omega), hrow]
      unfold laws_szInt64S.f
      rw [hw, if_pos h]
      rfl
    · obtain ⟨s, hs, hh⟩ := ih (i + 1) (a - (X[i].length : Int)) (by omega) (by omega) (by omega) (by omega) (fun x h' => hx x (List.mem_cons_of_mem _ h'))
      refine ⟨s, Ev.step (fun k => ?_) hs, ?_⟩
      · rw [laws_szInt64SS.l0, if_pos (by omega), if_pos (by omega), hrow]
        unfold laws_szInt64S.f
        rw [hw, if_neg h, Option.bind_some, if_neg h, wid (x := (i : Int) + 1) (by omega) (by omega)]
        rfl
      · rcases hh with hh | ⟨hh, hh2, hz⟩
        · exact .inl hh
        · refine .inr ⟨hh, hh2, fun x h' => ?_⟩
          rcases List.mem_cons.1 h' with h' | h'
          · subst h'; omega
          · exact hz x h'
theorem szSS (X : List (List Int)) (hX : X.length ≤ 9223372036854775807) (hx : ∀ x ∈ X, x.length ≤ 9223372036854775807) :
    ∃ s : Int, Ev (fun k => laws_szInt64SS.f k X 1048576) s ∧ (s < 0 ∨ (0 ≤ s ∧ s ≤ 1048576 ∧ X.length ≤ 1048576 ∧ ∀ x ∈ X, x.length ≤ 1048576)) := by
  have hw : wrap64 (1048576 - (X.length : Int)) = 1048576 - (X.length : Int) := wid (by omega) (by omega)
  by_cases h : 1048576 - (X.length : Int) < 0
  · refine ⟨-1, ⟨0, fun k _ => ?_⟩, .inl (by omega)⟩
    unfold laws_szInt64SS.f
    simp only [hw, if_pos h]
  · obtain ⟨s, hs, hh⟩ := szSS_l X (by omega) X.length 0 (1048576 - (X.length : Int)) (by omega) (by omega) (by omega) (by omega) (by simpa using hx)
    refine ⟨s, ?_, ?_⟩
    · unfold laws_szInt64SS.f
      simp only [hw, if_neg h]
      exact hs
    · rcases hh with hh | ⟨hh, hh2, hz⟩
      · exact .inl hh
      · exact .inr ⟨hh, hh2, by omega, by simpa using hz⟩

theorem getD_set (xs : List Int) (i j : Nat) (v : Int) (hi : i < xs.length) : (xs.set i v).getD j 0 = if i = j then v else xs.getD j 0 := by
  rw [List.getD_eq_getElem?_getD, List.getElem?_set]
  by_cases e : i = j
  · subst e; rw [if_pos rfl, if_pos hi, if_pos rfl]; rfl
  · rw [if_neg e, if_neg e, List.getD_eq_getElem?_getD]
theorem ext_getD {xs ys : List Int} (h : xs.length = ys.length) (he : ∀ j, j < xs.length → xs.getD j 0 = ys.getD j 0) : xs = ys := by
  apply List.ext_getElem h
  intro j h1 h2
  have := he j h1
  rwa [List.getD_eq_getElem?_getD, List.getD_eq_getElem?_getD, List.getElem?_eq_getElem h1, List.getElem?_eq_getElem h2] at this
theorem rd_nat (xs : List Int) (i : Nat) : rd xs (i : Int) = xs.getD i 0 := by unfold rd; rw [Int.toNat_natCast]
theorem rd_mem (xs : List Int) (i : Nat) (h : i < xs.length) : rd xs (i : Int) ∈ xs := by
  rw [rd_nat, List.getD_eq_getElem?_getD, List.getElem?_eq_getElem h]
  exact List.getElem_mem _
theorem take_snoc (xs : List Int) (i : Nat) (h : i < xs.length) : xs.take (i + 1) = xs.take i ++ [rd xs (i : Int)] := by
  rw [List.take_succ_eq_append_getElem h, rd_nat, List.getD_eq_getElem?_getD, List.getElem?_eq_getElem h]
  rfl
theorem drop_cons (xs : List Int) (i : Nat) (h : i < xs.length) : xs.drop i = rd xs (i : Int) :: xs.drop (i + 1) := by
  rw [List.drop_eq_getElem_cons h, rd_nat, List.getD_eq_getElem?_getD, List.getElem?_eq_getElem h]
  rfl

theorem toInts_l (l : List Int) (hl : l.length ≤ 140737488355328) (d : Nat) : ∀ (i : Nat) (xs : List Int), xs.length = l.length → (∀ j, j < i → xs.getD j 0 = l.getD j 0) → l.length - i = d → i ≤ l.length →
    Ev (fun k => laws_toInt64S.l0 k l xs (i : Int)) l := by
  induction d with
  | zero =>
    intro i xs hx h hd hi
    have e : xs = l := ext_getD hx (fun j hj => h j (by omega))
    subst e
    exact ev_ret (fun k => by rw [laws_toInt64S.l0, if_neg (by omega)])
  | succ d ih =>
    intro i xs hx h hd hi
    refine Ev.step (fun k => ?_) (ih (i + 1) (xs.set i (rd l (i : Int))) (by rw [List.length_set, hx]) (fun j hj => ?_) (by omega) (by omega))
    · rw [laws_toInt64S.l0, if_pos (by omega), if_pos (by omega), if_pos (by omega), Int.toNat_natCast, wid (x := (i : Int) + 1) (by omega) (by omega), show ((i + 1 : Nat) : Int) = (i : Int) + 1 by omega]
    · rw [getD_set _ _ _ _ (by omega)]
      by_cases e : i = j
      · subst e; rw [if_pos rfl, rd_nat]
      · rw [if_neg e]; exact h j (by omega)
theorem toInts (l : List Int) (hl : l.length ≤ 35184372088832) : Ev (fun k => laws_toInt64S.f k l) l := by
  unfold laws_toInt64S.f
  simp only [if_pos (show (0 : Int) ≤ (l.length : Int) by omega), Int.toNat_natCast, if_pos hl]
  exact toInts_l l (by omega) l.length 0 _ (by rw [List.length_replicate]) (fun j hj => by omega) (by omega) (by omega)

/-- A row of rows, copied. -/
theorem toSS (X : List (List Int)) (hX : X.length ≤ 100000000) (hr : ∀ x ∈ X, x.length ≤ 100000000) : Ev (fun k => laws_toInt64SS.f k X) X := by
  have h : ∀ (Y : List (List Int)), (∀ x ∈ Y, x.length ≤ 100000000) → ∃ K, ∀ k, K ≤ k → (Y.all fun x => decide (laws_toInt64S.f k x = some x)) = true := by
    intro Y
    induction Y with
    | nil => intro _; exact ⟨0, fun _ _ => rfl⟩
    | cons y Y ih =>
      intro hy
      obtain ⟨K, h1⟩ := ih (fun x hx => hy x (List.mem_cons_of_mem _ hx))
      obtain ⟨K2, h2⟩ := toInts y (by have := hy y (List.mem_cons_self ..); omega)
      refine ⟨K + K2, fun k hk => ?_⟩
      rw [List.all_cons, h1 k (by omega), decide_eq_true (h2 k (by omega)), Bool.and_true]
  obtain ⟨K, hK⟩ := h X hr
  exact ⟨K, fun k hk => by unfold laws_toInt64SS.f; exact if_pos ⟨hX, hK k hk⟩⟩

/-- A list is equal to itself. -/
theorem eqs_l (a : List Int) (ha : a.length ≤ 140737488355328) (d : Nat) : ∀ (i : Int), 0 ≤ i → (a.length : Int) - i = d → Ev (fun k => laws_eqInt64S.l0 k a a i) true := by
  induction d with
  | zero => intro i h0 hd; exact ev_ret (fun k => by rw [laws_eqInt64S.l0, if_neg (by omega)])
  | succ d ih =>
    intro i h0 hd
    refine Ev.step (fun k => ?_) (ih (i + 1) (by omega) (by omega))
    rw [laws_eqInt64S.l0, if_pos (by omega), if_pos h0, if_pos (by omega), if_pos rfl, wid (x := i + 1) (by omega) (by omega)]
theorem eqs (a : List Int) (ha : a.length ≤ 140737488355328) : Ev (fun k => laws_eqInt64S.f k a a) true := by
  unfold laws_eqInt64S.f
  simp only [if_true]
  exact eqs_l a ha a.length 0 (by omega) (by omega)

theorem eqsSS_l (X : List (List Int)) (hX : X.length ≤ 1000000000) (hr : ∀ x ∈ X, x.length ≤ 1000000000) : ∀ (B A : List (List Int)), X = A ++ B → Ev (fun k => laws_eqInt64SS.l0 k X X (A.length : Int)) true
  | [], A, e => by
    refine ev_ret (fun k => ?_)
    rw [laws_eqInt64SS.l0, if_neg (by rw [e]; simp)]
  | x :: B, A, e => by
    have hl : X.length = A.length + (B.length + 1) := by rw [e]; simp
    have hx : rd_L1 X (A.length : Int) = x := by unfold rd_L1; rw [Int.toNat_natCast, e]; exact rdL_app A x B
    have ih := eqsSS_l X hX hr B (A ++ [x]) (by rw [e]; simp)
    rw [List.length_append, List.length_singleton] at ih
    refine Ev.step (fun k => ?_) (Ev.bind (f := fun k t => if t = true then laws_eqInt64SS.l0 k X X ((A.length + 1 : Nat) : Int) else some false) (eqs x (by have := hr x (by rw [e]; simp); omega)) (by simpa using ih))
    rw [laws_eqInt64SS.l0, if_pos (by omega), if_pos (by omega), if_pos (by omega), hx, wid (x := (A.length : Int) + 1) (by omega) (by omega), show ((A.length + 1 : Nat) : Int) = (A.length : Int) + 1 by omega]
theorem eqsSS (X : List (List Int)) (hX : X.length ≤ 1000000000) (hr : ∀ x ∈ X, x.length ≤ 1000000000) : Ev (fun k => laws_eqInt64SS.f k X X) true := by
  unfold laws_eqInt64SS.f
  simp only [if_true]
  exact eqsSS_l X hX hr X [] rfl

/-- The size of a policy as the laws count it. -/
theorem szP (l0 : List (List Int)) (l1 : List Int) (hl0 : l0.length ≤ 9223372036854775807) (hx0 : ∀ x ∈ l0, x.length ≤ 9223372036854775807) (hl1 : l1.length ≤ 9223372036854775807) :
    ∃ z : Int, Ev (fun k => laws_szPolicy.f k l0 l1 1048576) z ∧ (z < 0 ∨ (0 ≤ z ∧ l1.length ≤ 1048576 ∧ l0.length ≤ 1048576 ∧ ∀ x ∈ l0, x.length ≤ 1048576)) := by
  unfold laws_szPolicy.f
  obtain ⟨s, es, hh⟩ := szSS l0 hl0 hx0
  rcases hh with hh | ⟨hh, hh2, hX, hx⟩
  · exact ⟨-1, Ev.bind es (ev_all fun k => by rw [if_pos hh]), .inl (by omega)⟩
  have ez : ∃ z : Int, laws_szInt64S.f l1 s = some z ∧ (z < 0 ∨ (0 ≤ z ∧ l1.length ≤ 1048576)) := by
    unfold laws_szInt64S.f
    rw [wid (x := s - (l1.length : Int)) (by omega) (by omega)]
    by_cases q : s - (l1.length : Int) < 0
    · exact ⟨-1, by rw [if_pos q], .inl (by omega)⟩
    · exact ⟨_, by rw [if_neg q], .inr ⟨by omega, by omega⟩⟩
  obtain ⟨z, ez, hz⟩ := ez
  rcases hz with hz | ⟨hz, h1⟩
  · exact ⟨-1, Ev.bind es (ev_all fun k => by rw [if_neg (by omega), ez, Option.bind_some, if_pos hz]), .inl (by omega)⟩
  · exact ⟨z, Ev.bind es (ev_all fun k => by rw [if_neg (by omega), ez, Option.bind_some, if_neg (by omega)]), .inr ⟨hz, h1, hX, hx⟩⟩
theorem toP (l0 : List (List Int)) (l1 : List Int) (hX : l0.length ≤ 1048576) (hx : ∀ x ∈ l0, x.length ≤ 1048576) (h1 : l1.length ≤ 1048576) : Ev (fun k => laws_toPolicy.f k l0 l1) (l0, l1) := by
  unfold laws_toPolicy.f
  exact Ev.bind (toSS l0 (by omega) (fun x h => by have := hx x h; omega)) (Ev.bind (toInts l1 (by omega)) (Ev.now _))
theorem eqP (l0 : List (List Int)) (l1 : List Int) (hX : l0.length ≤ 1048576) (hx : ∀ x ∈ l0, x.length ≤ 1048576) (h1 : l1.length ≤ 1048576) : Ev (fun k => laws_eqPolicy.f k l0 l1 l0 l1) true := by
  unfold laws_eqPolicy.f
  refine Ev.bind (eqsSS l0 (by omega) (fun x h => by have := hx x h; omega)) ?_
  simp only [if_true]
  refine Ev.bind (eqs l1 (by omega)) ?_
  simp only [if_true]
  exact Ev.now _

/-! an order, told in two ways -/
theorem asc_of (s : List Int) : ∀ (a : Int), s.Pairwise (· < ·) → (∀ y ∈ s, a ≤ y ∧ y < a + (s.length : Int)) → s = (List.range s.length).map (fun i : Nat => a + (i : Int)) := by
  induction s with
  | nil => intro a _ _; rfl
  | cons y t ih =>
    intro a hs hb
    rw [List.pairwise_cons] at hs
    have hy := hb y (List.mem_cons_self ..)
    rw [List.length_cons] at hy hb ⊢
    have ht := ih (a + 1) hs.2 (fun z hz => by
      have h1 := hs.1 z hz
      have h2 := hb z (List.mem_cons_of_mem _ hz)
      omega)
    have hya : y = a := by
      cases t with
      | nil => simp only [List.length_nil] at hy; omega
      | cons z t =>
        have h1 := hs.1 z (List.mem_cons_self ..)
        rw [List.length_cons, List.range_succ_eq_map, List.map_cons] at ht
        have h2 : z = a + 1 + ((0 : Nat) : Int) := (List.cons.inj ht).1
        omega
    rw [List.range_succ_eq_map, List.map_cons, List.map_map]
    refine List.cons_eq_cons.2 ⟨by rw [hya]; omega, ?_⟩
    rw [ht]
    simp only [List.length_map, List.length_range]
    apply List.map_congr_left
    intro i _
    show a + 1 + (i : Int) = a + ((i + 1 : Nat) : Int)
    omega
theorem rng_pw (n : Nat) : (rngL n).Pairwise (· < ·) := by
  unfold rngL
  rw [List.pairwise_map]
  exact (List.pairwise_lt_range (n := n)).imp (fun h => by omega)
theorem rng_mem (n : Nat) (y : Int) : y ∈ rngL n ↔ 0 ≤ y ∧ y < (n : Int) := by
  unfold rngL
  rw [List.mem_map]
  constructor
  · rintro ⟨i, hi, rfl⟩
    rw [List.mem_range] at hi
    omega
  · rintro ⟨h0, h1⟩
    exact ⟨y.toNat, by rw [List.mem_range]; omega, by omega⟩
theorem ord_iff (x : List Int) : ((x.mergeSort fun a b => decide (a ≤ b)) = rngL x.length) ↔ (x.Nodup ∧ ∀ y ∈ x, 0 ≤ y ∧ y < (x.length : Int)) := by
  have hp := List.mergeSort_perm x (fun a b => decide (a ≤ b))
  constructor
  · intro h
    rw [h] at hp
    refine ⟨hp.nodup_iff.1 ((rng_pw x.length).imp (fun h => by omega)), fun y hy => (rng_mem _ y).1 (hp.mem_iff.2 hy)⟩
  · rintro ⟨hn, hb⟩
    have hs : (x.mergeSort fun a b => decide (a ≤ b)).Pairwise (fun a b => decide (a ≤ b) = true) := List.pairwise_mergeSort (fun a b c h1 h2 => by simp at *; omega) (fun a b => by simp; omega) x
    have hn2 : (x.mergeSort fun a b => decide (a ≤ b)).Nodup := hp.nodup_iff.2 hn
    have hl : (x.mergeSort fun a b => decide (a ≤ b)).length = x.length := List.length_mergeSort x
    have hlt : (x.mergeSort fun a b => decide (a ≤ b)).Pairwise (· < ·) := by
      refine (hs.and hn2).imp ?_
      rintro a b ⟨h1, h2⟩
      have := of_decide_eq_true h1
      omega
    have := asc_of _ 0 hlt (fun y hy => by
      have := hb y (hp.mem_iff.1 hy)
      rw [hl]; omega)
    rw [this, hl]
    unfold rngL
    apply List.map_congr_left
    intro i _
    omega
theorem has_l (s : List Int) (x : Int) (hl : s.length ≤ 1048576) (d : Nat) : ∀ (j : Nat), s.length - j = d → j ≤ s.length → Ev (fun k => spec_l00Has.l0 k s x (j : Int)) (decide (x ∈ s.drop j)) := by
  induction d with
  | zero =>
    intro j hd hj
    rw [List.drop_eq_nil_of_le (by omega), decide_eq_false (by simp)]
    exact ev_ret (fun k => by rw [spec_l00Has.l0, if_neg (by omega)])
  | succ d ih =>
    intro j hd hj
    have e := Aside0.mk (show wrap64 ((j : Int) + 1) = ((j + 1 : Nat) : Int) by rw [wid (by omega) (by omega)]; omega)
    have hx := ih (j + 1) (by omega) (by omega)
    have g1 : (j : Int) < (s.length : Int) := by omega
    have g2 : (0 : Int) ≤ (j : Int) := by omega
    rw [drop_cons s j (by omega)]
    by_cases h : rd s (j : Int) = x
    · rw [decide_eq_true (by rw [h]; exact List.mem_cons_self ..)]
      exact ev_ret (fun k => by rw [spec_l00Has.l0, if_pos g1, if_pos g2, if_pos h])
    · have ed : decide (x ∈ rd s (j : Int) :: s.drop (j + 1)) = decide (x ∈ s.drop (j + 1)) := by
        congr 1
        rw [List.mem_cons]
        exact propext ⟨fun q => q.resolve_left (fun e => h e.symm), .inr⟩
      rw [ed]
      refine Ev.step (fun k => ?_) hx
      rw [spec_l00Has.l0, if_pos g1, if_pos g2, if_neg h, e.out]
theorem has_is (s : List Int) (x : Int) (hl : s.length ≤ 1048576) : Ev (fun k => spec_l00Has.f k s x) (decide (x ∈ s)) := by
  have := has_l s x hl s.length 0 (by omega) (by omega)
  rw [List.drop_zero] at this
  exact this
theorem in_is (a b c : Int) : spec_l00In.f a b c = some (decide (b ≤ a) && decide (a ≤ c)) := by
  unfold spec_l00In.f
  by_cases h : a ≥ b
  · rw [if_pos h, decide_eq_true (show b ≤ a from h), Bool.true_and]
  · rw [if_neg h, decide_eq_false (show ¬ b ≤ a from h), Bool.false_and]
/-- What the loop answers from i on. -/
def ordTail (x : List Int) (n : Int) (i : Nat) : Prop := (x.drop i).Nodup ∧ (∀ y ∈ x.drop i, 0 ≤ y ∧ y ≤ n - 1 ∧ y ∉ x.take i) ∧ (x.length : Int) = n
open Classical in
theorem order_l (x : List Int) (n : Int) (hn0 : 0 ≤ n) (hn1 : n ≤ 1048576) (hl : x.length ≤ 1048576) (d : Nat) : ∀ i : Nat, x.length - i = d → i ≤ x.length → Ev (fun k => spec_l03Order.l0 k x n (i : Int)) (decide (ordTail x n i)) := by
  have wn := Aside0.mk (show wrap64 (n - 1) = n - 1 from wid (by omega) (by omega))
  induction d with
  | zero =>
    intro i hd hi
    have e : ordTail x n i ↔ (x.length : Int) = n := by
      unfold ordTail
      rw [List.drop_eq_nil_of_le (by omega)]
      simp
    have e2 : decide (ordTail x n i) = ((x.length : Int) == n) := by
      rw [Bool.eq_iff_iff, decide_eq_true_eq, e, beq_iff_eq]
    rw [e2]
    exact ev_ret (fun k => by rw [spec_l03Order.l0, if_neg (by omega)])
  | succ d ih =>
    intro i hd hi
    have hi2 : i < x.length := by omega
    have e1 := Aside0.mk (show wrap64 ((i : Int) + 1) = ((i + 1 : Nat) : Int) by rw [wid (by omega) (by omega)]; omega)
    have g1 : (i : Int) < (x.length : Int) := by omega
    have g2 : (0 : Int) ≤ (i : Int) := by omega
    have g3 : (i : Int) ≤ (x.length : Int) := by omega
    have hx := ih (i + 1) (by omega) (by omega)
    have hd1 := drop_cons x i hi2
    have ht1 := take_snoc x i hi2
    have hh := has_is (x.take i) (rd x (i : Int)) (by rw [List.length_take]; omega)
    have key : ordTail x n i ↔ ((0 ≤ rd x (i : Int) ∧ rd x (i : Int) ≤ n - 1) ∧ rd x (i : Int) ∉ x.take i ∧ ordTail x n (i + 1)) := by
      unfold ordTail
      rw [hd1, ht1, List.nodup_cons]
      generalize rd x (i : Int) = y
      generalize x.drop (i + 1) = t
      generalize x.take i = p
      constructor
      · rintro ⟨⟨a1, a2⟩, a3, a4⟩
        have b := a3 y (List.mem_cons_self ..)
        refine ⟨⟨b.1, b.2.1⟩, b.2.2, a2, fun z hz => ?_, a4⟩
        have c := a3 z (List.mem_cons_of_mem _ hz)
        refine ⟨c.1, c.2.1, fun q => ?_⟩
        rcases List.mem_append.1 q with q | q
        · exact c.2.2 q
        · rw [List.mem_singleton] at q; subst q; exact a1 hz
      · rintro ⟨⟨b1, b2⟩, b3, a2, a3, a4⟩
        refine ⟨⟨fun q => (a3 y q).2.2 (List.mem_append_right _ (List.mem_singleton.2 rfl)), a2⟩, fun z hz => ?_, a4⟩
        rcases List.mem_cons.1 hz with rfl | hz
        · exact ⟨b1, b2, b3⟩
        · have c := a3 z hz
          exact ⟨c.1, c.2.1, fun q => c.2.2 (List.mem_append_left _ q)⟩
    clear hd1 ht1
    by_cases c1 : 0 ≤ rd x (i : Int) ∧ rd x (i : Int) ≤ n - 1
    · have c1b : (decide (0 ≤ rd x (i : Int)) && decide (rd x (i : Int) ≤ n - 1)) = true := by rw [decide_eq_true c1.1, decide_eq_true c1.2]; rfl
      by_cases c2 : rd x (i : Int) ∈ x.take i
      · rw [decide_eq_false (fun h => (key.1 h).2.1 c2)]
        rw [decide_eq_true c2] at hh
        refine Ev.step (f := fun k => (spec_l00Has.f k (x.take i) (rd x (i : Int))).bind fun t111 => (if t111 = true then (some false) else (spec_l03Order.l0 k x n ((i + 1 : Nat) : Int)))) (fun k => ?_) (Ev.bind hh (ev_all fun k => by rw [if_pos rfl]))
        rw [spec_l03Order.l0, if_pos g1, if_pos g2, wn.out, in_is, c1b, Option.bind_some, if_pos rfl, if_pos g3, Int.toNat_natCast, e1.out]
      · have ed : decide (ordTail x n i) = decide (ordTail x n (i + 1)) := by
          rw [Bool.eq_iff_iff, decide_eq_true_eq, decide_eq_true_eq, key]
          exact ⟨fun h => h.2.2, fun h => ⟨c1, c2, h⟩⟩
        rw [ed]
        rw [decide_eq_false c2] at hh
        refine Ev.step (f := fun k => (spec_l00Has.f k (x.take i) (rd x (i : Int))).bind fun t111 => (if t111 = true then (some false) else (spec_l03Order.l0 k x n ((i + 1 : Nat) : Int)))) (fun k => ?_) (Ev.bind hh ?_)
        · rw [spec_l03Order.l0, if_pos g1, if_pos g2, wn.out, in_is, c1b, Option.bind_some, if_pos rfl, if_pos g3, Int.toNat_natCast, e1.out]
        · simp only [if_neg (show ¬ (false = true) by decide)]
          exact hx
    · have c1b : (decide (0 ≤ rd x (i : Int)) && decide (rd x (i : Int) ≤ n - 1)) = false := by
        rw [Bool.and_eq_false_iff, decide_eq_false_iff_not, decide_eq_false_iff_not]
        exact Classical.not_and_iff_not_or_not.1 c1
      rw [decide_eq_false (fun h => c1 (key.1 h).1)]
      exact ev_ret (fun k => by rw [spec_l03Order.l0, if_pos g1, if_pos g2, wn.out, in_is, c1b, Option.bind_some, if_neg (by decide)])
theorem order_is (x : List Int) (n : Int) (hn0 : 0 ≤ n) (hn1 : n ≤ 1048576) (hl : x.length ≤ 1048576) : Ev (fun k => spec_l03Order.f k x n) (ordB x n) := by
  classical
  have h := order_l x n hn0 hn1 hl x.length 0 (by omega) (by omega)
  have e : decide (ordTail x n 0) = ordB x n := by
    rw [Bool.eq_iff_iff, decide_eq_true_eq]
    unfold ordTail ordB
    rw [Bool.and_eq_true, decide_eq_true_eq, decide_eq_true_eq, List.drop_zero, List.take_zero]
    constructor
    · rintro ⟨a, b, c⟩
      refine ⟨c, ?_⟩
      rw [← c, Int.toNat_natCast]
      exact (ord_iff x).2 ⟨a, fun y hy => by have := b y hy; omega⟩
    · rintro ⟨c, s⟩
      rw [← c, Int.toNat_natCast] at s
      obtain ⟨a, b⟩ := (ord_iff x).1 s
      exact ⟨a, fun y hy => by have := b y hy; exact ⟨this.1, by omega, by simp⟩, c⟩
  rw [← e]
  exact h

/-- The reference's test of a policy. -/
theorem l3_ev (l0 : List (List Int)) (l1 : List Int) (h0 : ∀ x ∈ l0, x.length ≤ 1048576) (h1 : l1.length ≤ 1048576) : ∃ K, ∀ k, K ≤ k → ((spec_l03Order.f k l1 (l1.length : Int)).isSome && l0.all fun x => (spec_l03Order.f k x (l1.length : Int)).isSome) = true ∧ l3is k l0 l1 = validP l0 l1 := by
  obtain ⟨K1, k1⟩ := order_is l1 (l1.length : Int) (by omega) (by omega) h1
  have hall : ∀ (Y : List (List Int)), (∀ x ∈ Y, x.length ≤ 1048576) → ∃ K, ∀ k, K ≤ k → ∀ x ∈ Y, spec_l03Order.f k x (l1.length : Int) = some (ordB x (l1.length : Int)) := by
    intro Y
    induction Y with
    | nil => intro _; exact ⟨0, fun k _ x hx => by cases hx⟩
    | cons y Y ih =>
      intro h
      obtain ⟨K, hK⟩ := ih (fun x hx => h x (List.mem_cons_of_mem _ hx))
      obtain ⟨K2, hK2⟩ := order_is y (l1.length : Int) (by omega) (by omega) (h y (List.mem_cons_self ..))
      refine ⟨max K K2, fun k hk x hx => ?_⟩
      rcases List.mem_cons.1 hx with rfl | hx
      · exact hK2 k (by omega)
      · exact hK k (by omega) x hx
  obtain ⟨K0, k0⟩ := hall l0 h0
  refine ⟨max K0 K1, fun k hk => ?_⟩
  have e1 := k1 k (by omega)
  have e0 := k0 k (by omega)
  have e1' : spec_l03Order.f k l1 (l1.length : Int) = some (ordB l1 (l1.length : Int)) := e1
  refine ⟨by
    rw [Bool.and_eq_true, List.all_eq_true]
    exact ⟨by rw [e1']; rfl, fun x hx => by rw [e0 x hx]; rfl⟩, ?_⟩
  have q : ∀ x, spec_l03Order.f k x (l1.length : Int) = some (ordB x (l1.length : Int)) → l3o k x (l1.length : Int) = ordB x (l1.length : Int) := fun x hx => by
    unfold l3o; rw [hx]; cases ordB x (l1.length : Int) <;> rfl
  have ea : (l0.all fun x => l3o k x (l1.length : Int)) = (l0.all fun x => ordB x (l1.length : Int)) := by
    rw [Bool.eq_iff_iff, List.all_eq_true, List.all_eq_true]
    exact forall_congr' fun x => forall_congr' fun hx => by rw [q x (e0 x hx)]
  unfold l3is validP
  rw [ea, q l1 e1']
  generalize (l0.all fun x => ordB x (l1.length : Int)) = b4
  generalize ordB l1 (l1.length : Int) = b3
  rw [Bool.eq_iff_iff]
  simp only [Bool.and_eq_true, Bool.not_eq_true', decide_eq_false_iff_not, decide_eq_true_eq, bne_eq_false_iff_eq]
  constructor
  · rintro ⟨a, b, c, d⟩
    exact ⟨by omega, by omega, d⟩
  · rintro ⟨a, b, d⟩
    exact ⟨by omega, by omega, by omega, d⟩

/-- A list whose numbers go up one by one from a on, as far as index i. -/
def Upto (a : Int) (n : Nat) (xs : List Int) (i : Nat) : Prop := xs.length = n ∧ ∀ j, j < i → xs.getD j 0 = a + (j : Int)
theorem upto_set {a : Int} {n i : Nat} {xs : List Int} (h : Upto a n xs i) (hi : i < n) : Upto a n (xs.set i (a + (i : Int))) (i + 1) := by
  refine ⟨by rw [List.length_set]; exact h.1, fun j hj => ?_⟩
  have hl := h.1
  rw [List.getD_eq_getElem?_getD, List.getElem?_set]
  by_cases e : i = j
  · subst e
    rw [if_pos rfl, if_pos (by omega)]
    rfl
  · rw [if_neg e, ← List.getD_eq_getElem?_getD]
    exact h.2 j (by omega)
theorem mark_l (a : Int) (n : Nat) (h1 : 0 ≤ a) (h2 : a ≤ 4611686018427387904) (hn : n ≤ 140737488355328) (d : Nat) : ∀ (i : Nat) (xs : List Int), Upto a n xs i → n - i = d → i ≤ n →
    ∃ ys, Ev (fun k => laws_markInt64S.l0 k xs (a + (i : Int)) (i : Int)) (a + (n : Int), ys) ∧ Upto a n ys n := by
  induction d with
  | zero =>
    intro i xs h hd hi
    have e : i = n := by omega
    subst e
    have hl := h.1
    exact ⟨xs, ev_ret (fun k => by rw [laws_markInt64S.l0, if_neg (by omega)]), h⟩
  | succ d ih =>
    intro i xs h hd hi
    have hl := h.1
    obtain ⟨ys, e, hy⟩ := ih (i + 1) _ (upto_set h (by omega)) (by omega) (by omega)
    refine ⟨ys, Ev.step (fun k => ?_) e, hy⟩
    rw [laws_markInt64S.l0, if_pos (by omega), if_pos (by omega), wid (x := a + (i : Int) + 1) (by omega) (by omega), wid (x := (i : Int) + 1) (by omega) (by omega), Int.toNat_natCast]
    rw [show a + ((i + 1 : Nat) : Int) = a + (i : Int) + 1 by omega, show ((i + 1 : Nat) : Int) = (i : Int) + 1 by omega]
theorem mark_I (a : Int) (xs : List Int) (h1 : 0 ≤ a) (h2 : a ≤ 4611686018427387904) (hn : xs.length ≤ 140737488355328) :
    ∃ ys, Ev (fun k => laws_markInt64S.f k xs a) (a + (xs.length : Int), ys) ∧ Upto a xs.length ys xs.length := by
  obtain ⟨ys, e, hy⟩ := mark_l a xs.length h1 h2 hn xs.length 0 xs ⟨rfl, fun j hj => by omega⟩ (by omega) (by omega)
  exact ⟨ys, by simpa [laws_markInt64S.f] using e, hy⟩

theorem held_l (a : Int) (n : Nat) (ys : List Int) (h1 : 0 ≤ a) (h2 : a ≤ 4611686018427387904) (hn : n ≤ 140737488355328) (h : Upto a n ys n) (d : Nat) : ∀ (i : Nat), n - i = d → i ≤ n →
    Ev (fun k => laws_heldInt64S.l0 k ys (a + (i : Int)) (i : Int)) (a + (n : Int)) := by
  have hl := h.1
  induction d with
  | zero =>
    intro i hd hi
    have e : i = n := by omega
    subst e
    exact ev_ret (fun k => by rw [laws_heldInt64S.l0, if_neg (by omega)])
  | succ d ih =>
    intro i hd hi
    refine Ev.step (fun k => ?_) (ih (i + 1) (by omega) (by omega))
    have hr : rd ys (i : Int) = a + (i : Int) := by unfold rd; rw [Int.toNat_natCast]; exact h.2 i (by omega)
    rw [laws_heldInt64S.l0, if_pos (by omega), if_pos (by omega), if_pos hr, wid (x := a + (i : Int) + 1) (by omega) (by omega), wid (x := (i : Int) + 1) (by omega) (by omega)]
    rw [show a + ((i + 1 : Nat) : Int) = a + (i : Int) + 1 by omega, show ((i + 1 : Nat) : Int) = (i : Int) + 1 by omega]
/-- What is marked is held. -/
theorem mark_held (a : Int) (xs : List Int) (h1 : 0 ≤ a) (h2 : a ≤ 4611686018427387904) (hn : xs.length ≤ 140737488355328) :
    ∃ ys, Ev (fun k => laws_markInt64S.f k xs a) (a + (xs.length : Int), ys) ∧ Ev (fun k => laws_heldInt64S.f k ys a) (a + (xs.length : Int)) := by
  obtain ⟨ys, e, hy⟩ := mark_l a xs.length h1 h2 hn xs.length 0 xs ⟨rfl, fun j hj => by omega⟩ (by omega) (by omega)
  have e2 := held_l a xs.length ys h1 h2 hn hy xs.length 0 (by omega) (by omega)
  refine ⟨ys, ?_, ?_⟩
  · simpa [laws_markInt64S.f] using e
  · simpa [laws_heldInt64S.f] using e2

/-! rows of rows, marked -/
theorem markSS_l : ∀ (B : List (List Int)) (A : List (List Int)) (a : Int), (∀ x ∈ B, x.length ≤ 1000000000) → A.length + B.length ≤ 1000000000 → 0 ≤ a → a + 1000000000 * (B.length : Int) ≤ 4000000000000000000 →
    ∃ (m : Int) (ys : List (List Int)), Ev (fun k => laws_markInt64SS.l0 k (A ++ B) a (A.length : Int)) (m, A ++ ys) ∧ a ≤ m ∧ m ≤ a + 1000000000 * (B.length : Int)
  | [], A, a, _, hl, h0, h1 => by
    refine ⟨a, [], ev_ret (fun k => ?_), Int.le_refl _, by simp⟩
    · rw [laws_markInt64SS.l0, if_neg (by simp)]
  | x :: B, A, a, hr, hl, h0, h1 => by
    rw [List.length_cons] at hl h1
    have hx := hr x (List.mem_cons_self ..)
    obtain ⟨zs, e1, e2⟩ := mark_held a x h0 (by omega) (by omega)
    obtain ⟨m, ys, e3, h2, h3⟩ := markSS_l B (A ++ [zs]) (a + (x.length : Int)) (fun y hy => hr y (List.mem_cons_of_mem _ hy)) (by simp; omega) (by omega) (by omega)
    rw [List.length_append, List.length_singleton, List.append_assoc] at e3
    refine ⟨m, zs :: ys, ?_, by omega, by rw [List.length_cons]; omega⟩
    · refine Ev.step (fun k => ?_) (Ev.bind (f := fun k t => laws_markInt64SS.l0 k (A ++ t.2 :: B) t.1 ((A.length + 1 : Nat) : Int)) e1 (by simpa using e3))
      rw [laws_markInt64SS.l0, if_pos (by simp; omega), if_pos (by omega), Int.toNat_natCast, rdL_app, wid (x := (A.length : Int) + 1) (by omega) (by omega), show ((A.length + 1 : Nat) : Int) = (A.length : Int) + 1 by omega]
      simp only [setL_app]
theorem markSS (a : Int) (X : List (List Int)) (hX : X.length ≤ 100000000) (hr : ∀ x ∈ X, x.length ≤ 100000000) (h0 : 0 ≤ a) (h1 : a ≤ 1000000000) :
    ∃ (m : Int) (Y : List (List Int)), Ev (fun k => laws_markInt64SS.l0 k X a 0) (m, Y) ∧ a ≤ m ∧ m ≤ a + 1000000000 * (X.length : Int) := by
  obtain ⟨m, Y, e1, h2, h3⟩ := markSS_l X [] a (fun x hx => by have := hr x hx; omega) (by simp; omega) h0 (by omega)
  exact ⟨m, Y, by simpa using e1, h2, h3⟩

theorem FnExactEmptyContents : laws_FnExactEmptyContents.Pure := by
  intro l0 l1 hl0 hl1
  refine (?_ : ∃ k, laws_FnExactEmptyContents.f k l0 l1 = some true)
  unfold laws_FnExactEmptyContents.f
  suffices h : ∃ k, laws_FnExactEmptyContents.Good k l0 l1 by
    obtain ⟨k, h⟩ := h
    exact ⟨k, if_pos h⟩
  obtain ⟨z, ez, hz⟩ := szP l0 l1 hl0.1 (fun x hx => (hl0.2 x hx).1) hl1.1
  rcases hz with hz | ⟨hz, h1, hX, hx⟩
  · obtain ⟨K, hK⟩ := ez
    exact ⟨K, z, hK K (Nat.le_refl _), .inl hz⟩
  obtain ⟨R, b, hs, hi, hR⟩ : ∃ (R : List Int) (b : Bool), Ev (fun k => spec_EmptyContents.f k l0 l1) (R, b) ∧ impl_EmptyContents.f l0 l1 = some (R, b) ∧ R.length ≤ 6 := by
    obtain ⟨K, hK⟩ := l3_ev l0 l1 hx h1
    have ei : impl_ValidPolicy.f l0 l1 = some (validP l0 l1) := by
      unfold impl_ValidPolicy.f
      rw [if_pos ⟨h1, hx⟩]
    have es : Ev (fun k => spec_EmptyContents.f k l0 l1) (if validP l0 l1 = true then (List.replicate l1.length (-1), true) else ([], false)) := by
      refine ⟨K, fun k hk => ?_⟩
      obtain ⟨a, b⟩ := hK k hk
      show spec_EmptyContents.f k l0 l1 = _
      unfold spec_EmptyContents.f
      rw [if_pos (show spec_EmptyContents.ok k l0 l1 = true from a), b]
    unfold impl_EmptyContents.f
    rw [ei, Option.bind_some]
    cases hv : validP l0 l1 with
    | true =>
      have h6 : 1 ≤ l1.length ∧ l1.length ≤ 6 := by
        unfold validP at hv
        simp only [Bool.and_eq_true, decide_eq_true_eq] at hv
        omega
      rw [hv, if_pos rfl] at es
      refine ⟨_, _, es, ?_, by rw [List.length_replicate]; exact h6.2⟩
      rw [if_pos rfl]
      unfold impl_Policy_empty.f slices_Repeat_int64_int64.f
      rw [if_pos ⟨rfl, by omega, by omega⟩, Option.bind_some, Option.bind_some, Int.toNat_natCast]
      rfl
    | false =>
      rw [hv, if_neg (by decide)] at es
      exact ⟨_, _, es, by rw [if_neg (by decide)], by simp⟩
  obtain ⟨m1, Y, e1, g1, g2⟩ := markSS 1 l0 (by omega) (fun x h => by have := hx x h; omega) (by omega) (by omega)
  obtain ⟨ys, e2, -⟩ := mark_held m1 l1 (by omega) (by omega) (by omega)
  obtain ⟨zs, e3, e4⟩ := mark_held 1 R (by omega) (by omega) (by omega)
  have e5 := eqs R (by omega)
  have e6 := eqP l0 l1 hX hx h1
  have e7 := toP l0 l1 hX hx h1
  obtain ⟨K, hK⟩ := ev_and ez e7
  obtain ⟨K2, hK2⟩ := ev_and hs e5
  obtain ⟨K3, hK3⟩ := ev_and e6 e1
  obtain ⟨K4, hK4⟩ := ev_and e2 e3
  obtain ⟨K5, hK5⟩ := e4
  refine ⟨K + K2 + K3 + K4 + K5, z, (hK _ (by omega)).1, .inr ⟨hz, R, b, m1, _, Y, ys, _, zs, (hK _ (by omega)).2, (hK2 _ (by omega)).1, hi, (hK2 _ (by omega)).2, (hK3 _ (by omega)).1, (hK3 _ (by omega)).2, (hK4 _ (by omega)).1, by omega, (hK4 _ (by omega)).2, by omega, hK5 _ (by omega)⟩⟩

end Go.Proofs.Yteoacngaicchiaa.Pure
