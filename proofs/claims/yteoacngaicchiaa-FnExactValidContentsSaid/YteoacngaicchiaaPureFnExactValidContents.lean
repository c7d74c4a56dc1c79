/- The program's ValidContents returns what the reference's returns, for every policy and all contents, and leaves them as they were. Conditions: those of the row alone. -/
import Derived.Test.YteoacngaicchiaaPFnExactValidContentsy
namespace Go.Proofs.Yteoacngaicchiaa.Pure
open Go.RowKit Go.Proofs.Yteoacngaicchiaa.PFnExactValidContents Go.Proofs.YteoacngaicchiaaW.PrintWords Go.Proofs.YteoacngaicchiaaW.PrintLast Go.Proofs.YteoacngaicchiaaW.PrintMore
set_option linter.unusedVariables false
set_option linter.unusedSimpArgs false

theorem wid {x : Int} (h1 : -9223372036854775808 ≤ x) (h2 : x < 9223372036854775808) : wrap64 x = x := by unfold wrap64; omega
theorem i64_bd {x : Int} (h : (Lit.int .i64 x).wf = true) : -9223372036854775808 ≤ x ∧ x ≤ 9223372036854775807 := by
  simp only [Lit.wf, IntKind.min, IntKind.max, IntKind.signed, IntKind.bits, Bool.and_eq_true, decide_eq_true_eq, if_true] at h
  omega
/-- A loop's step, its answer known at once. -/
theorem ev_ret {α : Type} {g : Nat → Option α} {r : α} (h : ∀ k, g (k + 1) = some r) : Ev g r := Ev.step (f := fun _ => some r) h (Ev.now r)
theorem ev_all {α : Type} {g : Nat → Option α} {r : α} (h : ∀ k, g k = some r) : Ev g r := ⟨0, fun k _ => h k⟩

theorem ev_and {α β : Type} {g : Nat → Option α} {f : Nat → Option β} {a : α} {b : β} (h : Ev g a) (k : Ev f b) : ∃ K, ∀ n, K ≤ n → g n = some a ∧ f n = some b := by
  obtain ⟨K, h⟩ := h
  obtain ⟨K2, k⟩ := k
  exact ⟨max K K2, fun n hn => ⟨h n (Nat.le_trans (Nat.le_max_left ..) hn), k n (Nat.le_trans (Nat.le_max_right ..) hn)⟩⟩
theorem rdL_app (A : List (List Int)) (x : List Int) (B : List (List Int)) : (A ++ x :: B).getD A.length [] = x := by
  rw [List.getD_eq_getElem?_getD, List.getElem?_append_right (Nat.le_refl _), Nat.sub_self]
  rfl
theorem setL_app (A : List (List Int)) (x y : List Int) (B : List (List Int)) : (A ++ x :: B).set A.length y = A ++ y :: B := by
  rw [List.set_append_right _ _ (Nat.le_refl _), Nat.sub_self]
  rfl

/-! how many cells a row of rows has, counted down: what is counted to its end is not long -/
theorem szSS_l (X : List (List Int)) (hX : X.length ≤ 1048576) (d : Nat) : ∀ (i : Nat) (a : Int), X.length - i = d → i ≤ X.length → 0 ≤ a → a ≤ 1048576 → (∀ x ∈ X.drop i, x.length ≤ 9223372036854775807) →
    ∃ s : Int, Ev (fun k => laws_szInt64SS.l0 k X a (i : Int)) s ∧ (s < 0 ∨ (0 ≤ s ∧ s ≤ 1048576 ∧ ∀ x ∈ X.drop i, x.length ≤ 1048576)) := by
  induction d with
  | zero =>
    intro i a hd hi h0 h1 hx
    refine ⟨a, ev_ret (fun k => by rw [laws_szInt64SS.l0, if_neg (by omega)]), .inr ⟨h0, h1, ?_⟩⟩
    rw [List.drop_eq_nil_of_le (by omega)]
    intro x hx; cases hx
  | succ d ih =>
    intro i a hd hi h0 h1 hx
    have hlt : i < X.length := by omega
    rw [List.drop_eq_getElem_cons hlt] at hx ⊢
    have hrow : rd_L1 X (i : Int) = X[i] := by unfold rd_L1; rw [Int.toNat_natCast, List.getD_eq_getElem?_getD, List.getElem?_eq_getElem hlt]; rfl
    have hl := hx _ (List.mem_cons_self ..)
    have hw : wrap64 (a - (X[i].length : Int)) = a - (X[i].length : Int) := wid (by omega) (by omega)
    by_cases h : a - (X[i].length : Int) < 0
    · refine ⟨-1, ev_ret (fun k => ?_), .inl (by omega)⟩
      rw [laws_szInt64SS.l0, if_pos (by omega), if_pos (by omega), hrow]
      unfold laws_szInt64S.f
      rw [hw, if_pos h]
      rfl
    · obtain ⟨s, hs, hh⟩ := ih (i + 1) (a - (X[i].length : Int)) (by omega) (by omega) (by omega) (by omega) (fun x h' => hx x (List.mem_cons_of_mem _ h'))
      refine ⟨s, Ev.step (fun k => ?_) hs, ?_⟩
      · rw [laws_szInt64SS.l0, if_pos (by omega), if_pos (by omega), hrow]
        unfold laws_szInt64S.f
        rw [hw, if_neg h, Option.bind_some, if_neg h, wid (x := (i : Int) + 1) (by omega) (by omega)]
        rfl
      · rcases hh with hh | ⟨hh, hh2, hz⟩
        · exact .inl hh
        · refine .inr ⟨hh, hh2, fun x h' => ?_⟩
          rcases List.mem_cons.1 h' with h' | h'
          · subst h'; omega
          · exact hz x h'
theorem szSS (X : List (List Int)) (hX : X.length ≤ 9223372036854775807) (hx : ∀ x ∈ X, x.length ≤ 9223372036854775807) :
    ∃ s : Int, Ev (fun k => laws_szInt64SS.f k X 1048576) s ∧ (s < 0 ∨ (0 ≤ s ∧ s ≤ 1048576 ∧ X.length ≤ 1048576 ∧ ∀ x ∈ X, x.length ≤ 1048576)) := by
  have hw : wrap64 (1048576 - (X.length : Int)) = 1048576 - (X.length : Int) := wid (by omega) (by omega)
  by_cases h : 1048576 - (X.length : Int) < 0
  · refine ⟨-1, ⟨0, fun k _ => ?_⟩, .inl (by omega)⟩
    unfold laws_szInt64SS.f
    simp only [hw, if_pos h]
  · obtain ⟨s, hs, hh⟩ := szSS_l X (by omega) X.length 0 (1048576 - (X.length : Int)) (by omega) (by omega) (by omega) (by omega) (by simpa using hx)
    refine ⟨s, ?_, ?_⟩
    · unfold laws_szInt64SS.f
      simp only [hw, if_neg h]
      exact hs
    · rcases hh with hh | ⟨hh, hh2, hz⟩
      · exact .inl hh
      · exact .inr ⟨hh, hh2, by omega, by simpa using hz⟩

theorem getD_set (xs : List Int) (i j : Nat) (v : Int) (hi : i < xs.length) : (xs.set i v).getD j 0 = if i = j then v else xs.getD j 0 := by
  rw [List.getD_eq_getElem?_getD, List.getElem?_set]
  by_cases e : i = j
  · subst e; rw [if_pos rfl, if_pos hi, if_pos rfl]; rfl
  · rw [if_neg e, if_neg e, List.getD_eq_getElem?_getD]
theorem ext_getD {xs ys : List Int} (h : xs.length = ys.length) (he : ∀ j, j < xs.length → xs.getD j 0 = ys.getD j 0) : xs = ys := by
  apply List.ext_getElem h
  intro j h1 h2
  have := he j h1
  rwa [List.getD_eq_getElem?_getD, List.getD_eq_getElem?_getD, List.getElem?_eq_getElem h1, List.getElem?_eq_getElem h2] at this
theorem rd_nat (xs : List Int) (i : Nat) : rd xs (i : Int) = xs.getD i 0 := by unfold rd; rw [Int.toNat_natCast]
theorem rd_mem (xs : List Int) (i : Nat) (h : i < xs.length) : rd xs (i : Int) ∈ xs := by
  rw [rd_nat, List.getD_eq_getElem?_getD, List.getElem?_eq_getElem h]
  exact List.getElem_mem _
theorem take_snoc (xs : List Int) (i : Nat) (h : i < xs.length) : xs.take (i + 1) = xs.take i ++ [rd xs (i : Int)] := by
  rw [List.take_succ_eq_append_getElem h, rd_nat, List.getD_eq_getElem?_getD, List.getElem?_eq_getElem h]
  rfl
theorem drop_cons (xs : List Int) (i : Nat) (h : i < xs.length) : xs.drop i = rd xs (i : Int) :: xs.drop (i + 1) := by
  rw [List.drop_eq_getElem_cons h, rd_nat, List.getD_eq_getElem?_getD, List.getElem?_eq_getElem h]
  rfl

theorem toInts_l (l : List Int) (hl : l.length ≤ 140737488355328) (d : Nat) : ∀ (i : Nat) (xs : List Int), xs.length = l.length → (∀ j, j < i → xs.getD j 0 = l.getD j 0) → l.length - i = d → i ≤ l.length →
    Ev (fun k => laws_toInt64S.l0 k l xs (i : Int)) l := by
  induction d with
  | zero =>
    intro i xs hx h hd hi
    have e : xs = l := ext_getD hx (fun j hj => h j (by omega))
    subst e
    exact ev_ret (fun k => by rw [laws_toInt64S.l0, if_neg (by omega)])
  | succ d ih =>
    intro i xs hx h hd hi
    refine Ev.step (fun k => ?_) (ih (i + 1) (xs.set i (rd l (i : Int))) (by rw [List.length_set, hx]) (fun j hj => ?_) (by omega) (by omega))
    · rw [laws_toInt64S.l0, if_pos (by omega), if_pos (by omega), if_pos (by omega), Int.toNat_natCast, wid (x := (i : Int) + 1) (by omega) (by omega), show ((i + 1 : Nat) : Int) = (i : Int) + 1 by omega]
    · rw [getD_set _ _ _ _ (by omega)]
      by_cases e : i = j
      · subst e; rw [if_pos rfl, rd_nat]
      · rw [if_neg e]; exact h j (by omega)
theorem toInts (l : List Int) (hl : l.length ≤ 35184372088832) : Ev (fun k => laws_toInt64S.f k l) l := by
  unfold laws_toInt64S.f
  simp only [if_pos (show (0 : Int) ≤ (l.length : Int) by omega), Int.toNat_natCast, if_pos hl]
  exact toInts_l l (by omega) l.length 0 _ (by rw [List.length_replicate]) (fun j hj => by omega) (by omega) (by omega)

/-- A row of rows, copied. -/
theorem toSS (X : List (List Int)) (hX : X.length ≤ 100000000) (hr : ∀ x ∈ X, x.length ≤ 100000000) : Ev (fun k => laws_toInt64SS.f k X) X := by
  have h : ∀ (Y : List (List Int)), (∀ x ∈ Y, x.length ≤ 100000000) → ∃ K, ∀ k, K ≤ k → (Y.all fun x => decide (laws_toInt64S.f k x = some x)) = true := by
    intro Y
    induction Y with
    | nil => intro _; exact ⟨0, fun _ _ => rfl⟩
    | cons y Y ih =>
      intro hy
      obtain ⟨K, h1⟩ := ih (fun x hx => hy x (List.mem_cons_of_mem _ hx))
      obtain ⟨K2, h2⟩ := toInts y (by have := hy y (List.mem_cons_self ..); omega)
      refine ⟨K + K2, fun k hk => ?_⟩
      rw [List.all_cons, h1 k (by omega), decide_eq_true (h2 k (by omega)), Bool.and_true]
  obtain ⟨K, hK⟩ := h X hr
  exact ⟨K, fun k hk => by unfold laws_toInt64SS.f; exact if_pos ⟨hX, hK k hk⟩⟩

/-- A list is equal to itself. -/
theorem eqs_l (a : List Int) (ha : a.length ≤ 140737488355328) (d : Nat) : ∀ (i : Int), 0 ≤ i → (a.length : Int) - i = d → Ev (fun k => laws_eqInt64S.l0 k a a i) true := by
  induction d with
  | zero => intro i h0 hd; exact ev_ret (fun k => by rw [laws_eqInt64S.l0, if_neg (by omega)])
  | succ d ih =>
    intro i h0 hd
    refine Ev.step (fun k => ?_) (ih (i + 1) (by omega) (by omega))
    rw [laws_eqInt64S.l0, if_pos (by omega), if_pos h0, if_pos (by omega), if_pos rfl, wid (x := i + 1) (by omega) (by omega)]
theorem eqs (a : List Int) (ha : a.length ≤ 140737488355328) : Ev (fun k => laws_eqInt64S.f k a a) true := by
  unfold laws_eqInt64S.f
  simp only [if_true]
  exact eqs_l a ha a.length 0 (by omega) (by omega)

theorem eqsSS_l (X : List (List Int)) (hX : X.length ≤ 1000000000) (hr : ∀ x ∈ X, x.length ≤ 1000000000) : ∀ (B A : List (List Int)), X = A ++ B → Ev (fun k => laws_eqInt64SS.l0 k X X (A.length : Int)) true
  | [], A, e => by
    refine ev_ret (fun k => ?_)
    rw [laws_eqInt64SS.l0, if_neg (by rw [e]; simp)]
  | x :: B, A, e => by
    have hl : X.length = A.length + (B.length + 1) := by rw [e]; simp
    have hx : rd_L1 X (A.length : Int) = x := by unfold rd_L1; rw [Int.toNat_natCast, e]; exact rdL_app A x B
    have ih := eqsSS_l X hX hr B (A ++ [x]) (by rw [e]; simp)
    rw [List.length_append, List.length_singleton] at ih
    refine Ev.step (fun k => ?_) (Ev.bind (f := fun k t => if t = true then laws_eqInt64SS.l0 k X X ((A.length + 1 : Nat) : Int) else some false) (eqs x (by have := hr x (by rw [e]; simp); omega)) (by simpa using ih))
    rw [laws_eqInt64SS.l0, if_pos (by omega), if_pos (by omega), if_pos (by omega), hx, wid (x := (A.length : Int) + 1) (by omega) (by omega), show ((A.length + 1 : Nat) : Int) = (A.length : Int) + 1 by omega]
theorem eqsSS (X : List (List Int)) (hX : X.length ≤ 1000000000) (hr : ∀ x ∈ X, x.length ≤ 1000000000) : Ev (fun k => laws_eqInt64SS.f k X X) true := by
  unfold laws_eqInt64SS.f
  simp only [if_true]
  exact eqsSS_l X hX hr X [] rfl

/-- The size of a policy as the laws count it. -/
theorem szP (l0 : List (List Int)) (l1 : List Int) (hl0 : l0.length ≤ 9223372036854775807) (hx0 : ∀ x ∈ l0, x.length ≤ 9223372036854775807) (hl1 : l1.length ≤ 9223372036854775807) :
    ∃ z : Int, Ev (fun k => laws_szPolicy.f k l0 l1 1048576) z ∧ (z < 0 ∨ (0 ≤ z ∧ l1.length ≤ 1048576 ∧ l0.length ≤ 1048576 ∧ ∀ x ∈ l0, x.length ≤ 1048576)) := by
  unfold laws_szPolicy.f
  obtain ⟨s, es, hh⟩ := szSS l0 hl0 hx0
  rcases hh with hh | ⟨hh, hh2, hX, hx⟩
  · exact ⟨-1, Ev.bind es (ev_all fun k => by rw [if_pos hh]), .inl (by omega)⟩
  have ez : ∃ z : Int, laws_szInt64S.f l1 s = some z ∧ (z < 0 ∨ (0 ≤ z ∧ l1.length ≤ 1048576)) := by
    unfold laws_szInt64S.f
    rw [wid (x := s - (l1.length : Int)) (by omega) (by omega)]
    by_cases q : s - (l1.length : Int) < 0
    · exact ⟨-1, by rw [if_pos q], .inl (by omega)⟩
    · exact ⟨_, by rw [if_neg q], .inr ⟨by omega, by omega⟩⟩
  obtain ⟨z, ez, hz⟩ := ez
  rcases hz with hz | ⟨hz, h1⟩
  · exact ⟨-1, Ev.bind es (ev_all fun k => by rw [if_neg (by omega), ez, Option.bind_some, if_pos hz]), .inl (by omega)⟩
  · exact ⟨z, Ev.bind es (ev_all fun k => by rw [if_neg (by omega), ez, Option.bind_some, if_neg (by omega)]), .inr ⟨hz, h1, hX, hx⟩⟩
theorem toP (l0 : List (List Int)) (l1 : List Int) (hX : l0.length ≤ 1048576) (hx : ∀ x ∈ l0, x.length ≤ 1048576) (h1 : l1.length ≤ 1048576) : Ev (fun k => laws_toPolicy.f k l0 l1) (l0, l1) := by
  unfold laws_toPolicy.f
  exact Ev.bind (toSS l0 (by omega) (fun x h => by have := hx x h; omega)) (Ev.bind (toInts l1 (by omega)) (Ev.now _))
theorem eqP (l0 : List (List Int)) (l1 : List Int) (hX : l0.length ≤ 1048576) (hx : ∀ x ∈ l0, x.length ≤ 1048576) (h1 : l1.length ≤ 1048576) : Ev (fun k => laws_eqPolicy.f k l0 l1 l0 l1) true := by
  unfold laws_eqPolicy.f
  refine Ev.bind (eqsSS l0 (by omega) (fun x h => by have := hx x h; omega)) ?_
  simp only [if_true]
  refine Ev.bind (eqs l1 (by omega)) ?_
  simp only [if_true]
  exact Ev.now _

/-! an order, told in two ways -/
theorem asc_of (s : List Int) : ∀ (a : Int), s.Pairwise (· < ·) → (∀ y ∈ s, a ≤ y ∧ y < a + (s.length : Int)) → s = (List.range s.length).map (fun i : Nat => a + (i : Int)) := by
  induction s with
  | nil => intro a _ _; rfl
  | cons y t ih =>
    intro a hs hb
    rw [List.pairwise_cons] at hs
    have hy := hb y (List.mem_cons_self ..)
    rw [List.length_cons] at hy hb ⊢
    have ht := ih (a + 1) hs.2 (fun z hz => by
      have h1 := hs.1 z hz
      have h2 := hb z (List.mem_cons_of_mem _ hz)
      omega)
    have hya : y = a := by
      cases t with
      | nil => simp only [List.length_nil] at hy; omega
      | cons z t =>
        have h1 := hs.1 z (List.mem_cons_self ..)
        rw [List.length_cons, List.range_succ_eq_map, List.map_cons] at ht
        have h2 : z = a + 1 + ((0 : Nat) : Int) := (List.cons.inj ht).1
        omega
    rw [List.range_succ_eq_map, List.map_cons, List.map_map]
    refine List.cons_eq_cons.2 ⟨by rw [hya]; omega, ?_⟩
    rw [ht]
    simp only [List.length_map, List.length_range]
    apply List.map_congr_left
    intro i _
    show a + 1 + (i : Int) = a + ((i + 1 : Nat) : Int)
    omega
theorem rng_pw (n : Nat) : (rngL n).Pairwise (· < ·) := by
  unfold rngL
  rw [List.pairwise_map]
  exact (List.pairwise_lt_range (n := n)).imp (fun h => by omega)
theorem rng_mem (n : Nat) (y : Int) : y ∈ rngL n ↔ 0 ≤ y ∧ y < (n : Int) := by
  unfold rngL
  rw [List.mem_map]
  constructor
  · rintro ⟨i, hi, rfl⟩
    rw [List.mem_range] at hi
    omega
  · rintro ⟨h0, h1⟩
    exact ⟨y.toNat, by rw [List.mem_range]; omega, by omega⟩
theorem ord_iff (x : List Int) : ((x.mergeSort fun a b => decide (a ≤ b)) = rngL x.length) ↔ (x.Nodup ∧ ∀ y ∈ x, 0 ≤ y ∧ y < (x.length : Int)) := by
  have hp := List.mergeSort_perm x (fun a b => decide (a ≤ b))
  constructor
  · intro h
    rw [h] at hp
    refine ⟨hp.nodup_iff.1 ((rng_pw x.length).imp (fun h => by omega)), fun y hy => (rng_mem _ y).1 (hp.mem_iff.2 hy)⟩
  · rintro ⟨hn, hb⟩
    have hs : (x.mergeSort fun a b => decide (a ≤ b)).Pairwise (fun a b => decide (a ≤ b) = true) := List.pairwise_mergeSort (fun a b c h1 h2 => by simp at *; omega) (fun a b => by simp; omega) x
    have hn2 : (x.mergeSort fun a b => decide (a ≤ b)).Nodup := hp.nodup_iff.2 hn
    have hl : (x.mergeSort fun a b => decide (a ≤ b)).length = x.length := List.length_mergeSort x
    have hlt : (x.mergeSort fun a b => decide (a ≤ b)).Pairwise (· < ·) := by
      refine (hs.and hn2).imp ?_
      rintro a b ⟨h1, h2⟩
      have := of_decide_eq_true h1
      omega
    have := asc_of _ 0 hlt (fun y hy => by
      have := hb y (hp.mem_iff.1 hy)
      rw [hl]; omega)
    rw [this, hl]
    unfold rngL
    apply List.map_congr_left
    intro i _
    omega
theorem has_l (s : List Int) (x : Int) (hl : s.length ≤ 1048576) (d : Nat) : ∀ (j : Nat), s.length - j = d → j ≤ s.length → Ev (fun k => spec_l00Has.l0 k s x (j : Int)) (decide (x ∈ s.drop j)) := by
  induction d with
  | zero =>
    intro j hd hj
    rw [List.drop_eq_nil_of_le (by omega), decide_eq_false (by simp)]
    exact ev_ret (fun k => by rw [spec_l00Has.l0, if_neg (by omega)])
  | succ d ih =>
    intro j hd hj
    have e := Aside0.mk (show wrap64 ((j : Int) + 1) = ((j + 1 : Nat) : Int) by rw [wid (by omega) (by omega)]; omega)
    have hx := ih (j + 1) (by omega) (by omega)
    have g1 : (j : Int) < (s.length : Int) := by omega
    have g2 : (0 : Int) ≤ (j : Int) := by omega
    rw [drop_cons s j (by omega)]
    by_cases h : rd s (j : Int) = x
    · rw [decide_eq_true (by rw [h]; exact List.mem_cons_self ..)]
      exact ev_ret (fun k => by rw [spec_l00Has.l0, if_pos g1, if_pos g2, if_pos h])
    · have ed : decide (x ∈ rd s (j : Int) :: s.drop (j + 1)) = decide (x ∈ s.drop (j + 1)) := by
        congr 1
        rw [List.mem_cons]
        exact propext ⟨fun q => q.resolve_left (fun e => h e.symm), .inr⟩
      rw [ed]
      refine Ev.step (fun k => ?_) hx
      rw [spec_l00Has.l0, if_pos g1, if_pos g2, if_neg h, e.out]
theorem has_is (s : List Int) (x : Int) (hl : s.length ≤ 1048576) : Ev (fun k => spec_l00Has.f k s x) (decide (x ∈ s)) := by
  have := has_l s x hl s.length 0 (by omega) (by omega)
  rw [List.drop_zero] at this
  exact this
theorem in_is (a b c : Int) : spec_l00In.f a b c = some (decide (b ≤ a) && decide (a ≤ c)) := by
  unfold spec_l00In.f
  by_cases h : a ≥ b
  · rw [if_pos h, decide_eq_true (show b ≤ a from h), Bool.true_and]
  · rw [if_neg h, decide_eq_false (show ¬ b ≤ a from h), Bool.false_and]
/-- What the loop answers from i on. -/
def ordTail (x : List Int) (n : Int) (i : Nat) : Prop := (x.drop i).Nodup ∧ (∀ y ∈ x.drop i, 0 ≤ y ∧ y ≤ n - 1 ∧ y ∉ x.take i) ∧ (x.length : Int) = n
open Classical in
theorem order_l (x : List Int) (n : Int) (hn0 : 0 ≤ n) (hn1 : n ≤ 1048576) (hl : x.length ≤ 1048576) (d : Nat) : ∀ i : Nat, x.length - i = d → i ≤ x.length → Ev (fun k => spec_l03Order.l0 k x n (i : Int)) (decide (ordTail x n i)) := by
  have wn := Aside0.mk (show wrap64 (n - 1) = n - 1 from wid (by omega) (by omega))
  induction d with
  | zero =>
    intro i hd hi
    have e : ordTail x n i ↔ (x.length : Int) = n := by
      unfold ordTail
      rw [List.drop_eq_nil_of_le (by omega)]
      simp
    have e2 : decide (ordTail x n i) = ((x.length : Int) == n) := by
      rw [Bool.eq_iff_iff, decide_eq_true_eq, e, beq_iff_eq]
    rw [e2]
    exact ev_ret (fun k => by rw [spec_l03Order.l0, if_neg (by omega)])
  | succ d ih =>
    intro i hd hi
    have hi2 : i < x.length := by omega
    have e1 := Aside0.mk (show wrap64 ((i : Int) + 1) = ((i + 1 : Nat) : Int) by rw [wid (by omega) (by omega)]; omega)
    have g1 : (i : Int) < (x.length : Int) := by omega
    have g2 : (0 : Int) ≤ (i : Int) := by omega
    have g3 : (i : Int) ≤ (x.length : Int) := by omega
    have hx := ih (i + 1) (by omega) (by omega)
    have hd1 := drop_cons x i hi2
    have ht1 := take_snoc x i hi2
    have hh := has_is (x.take i) (rd x (i : Int)) (by rw [List.length_take]; omega)
    have key : ordTail x n i ↔ ((0 ≤ rd x (i : Int) ∧ rd x (i : Int) ≤ n - 1) ∧ rd x (i : Int) ∉ x.take i ∧ ordTail x n (i + 1)) := by
      unfold ordTail
      rw [hd1, ht1, List.nodup_cons]
      generalize rd x (i : Int) = y
      generalize x.drop (i + 1) = t
      generalize x.take i = p
      constructor
      · rintro ⟨⟨a1, a2⟩, a3, a4⟩
        have b := a3 y (List.mem_cons_self ..)
        refine ⟨⟨b.1, b.2.1⟩, b.2.2, a2, fun z hz => ?_, a4⟩
        have c := a3 z (List.mem_cons_of_mem _ hz)
        refine ⟨c.1, c.2.1, fun q => ?_⟩
        rcases List.mem_append.1 q with q | q
        · exact c.2.2 q
        · rw [List.mem_singleton] at q; subst q; exact a1 hz
      · rintro ⟨⟨b1, b2⟩, b3, a2, a3, a4⟩
        refine ⟨⟨fun q => (a3 y q).2.2 (List.mem_append_right _ (List.mem_singleton.2 rfl)), a2⟩, fun z hz => ?_, a4⟩
        rcases List.mem_cons.1 hz with rfl | hz
        · exact ⟨b1, b2, b3⟩
        · have c := a3 z hz
          exact ⟨c.1, c.2.1, fun q => c.2.2 (List.mem_append_left _ q)⟩
    clear hd1 ht1
    by_cases c1 : 0 ≤ rd x (i : Int) ∧ rd x (i : Int) ≤ n - 1
    · have c1b : (decide (0 ≤ rd x (i : Int)) && decide (rd x (i : Int) ≤ n - 1)) = true := by rw [decide_eq_true c1.1, decide_eq_true c1.2]; rfl
      by_cases c2 : rd x (i : Int) ∈ x.take i
      · rw [decide_eq_false (fun h => (key.1 h).2.1 c2)]
        rw [decide_eq_true c2] at hh
        refine Ev.step (f := fun k => (spec_l00Has.f k (x.take i) (rd x (i : Int))).bind fun t111 => (if t111 = true then (some false) else (spec_l03Order.l0 k x n ((i + 1 : Nat) : Int)))) (fun k => ?_) (Ev.bind hh (ev_all fun k => by rw [if_pos rfl]))
        rw [spec_l03Order.l0, if_pos g1, if_pos g2, wn.out, in_is, c1b, Option.bind_some, if_pos rfl, if_pos g3, Int.toNat_natCast, e1.out]
      · have ed : decide (ordTail x n i) = decide (ordTail x n (i + 1)) := by
          rw [Bool.eq_iff_iff, decide_eq_true_eq, decide_eq_true_eq, key]
          exact ⟨fun h => h.2.2, fun h => ⟨c1, c2, h⟩⟩
        rw [ed]
        rw [decide_eq_false c2] at hh
        refine Ev.step (f := fun k => (spec_l00Has.f k (x.take i) (rd x (i : Int))).bind fun t111 => (if t111 = true then (some false) else (spec_l03Order.l0 k x n ((i + 1 : Nat) : Int)))) (fun k => ?_) (Ev.bind hh ?_)
        · rw [spec_l03Order.l0, if_pos g1, if_pos g2, wn.out, in_is, c1b, Option.bind_some, if_pos rfl, if_pos g3, Int.toNat_natCast, e1.out]
        · simp only [if_neg (show ¬ (false = true) by decide)]
          exact hx
    · have c1b : (decide (0 ≤ rd x (i : Int)) && decide (rd x (i : Int) ≤ n - 1)) = false := by
        rw [Bool.and_eq_false_iff, decide_eq_false_iff_not, decide_eq_false_iff_not]
        exact Classical.not_and_iff_not_or_not.1 c1
      rw [decide_eq_false (fun h => c1 (key.1 h).1)]
      exact ev_ret (fun k => by rw [spec_l03Order.l0, if_pos g1, if_pos g2, wn.out, in_is, c1b, Option.bind_some, if_neg (by decide)])
theorem order_is (x : List Int) (n : Int) (hn0 : 0 ≤ n) (hn1 : n ≤ 1048576) (hl : x.length ≤ 1048576) : Ev (fun k => spec_l03Order.f k x n) (ordB x n) := by
  classical
  have h := order_l x n hn0 hn1 hl x.length 0 (by omega) (by omega)
  have e : decide (ordTail x n 0) = ordB x n := by
    rw [Bool.eq_iff_iff, decide_eq_true_eq]
    unfold ordTail ordB
    rw [Bool.and_eq_true, decide_eq_true_eq, decide_eq_true_eq, List.drop_zero, List.take_zero]
    constructor
    · rintro ⟨a, b, c⟩
      refine ⟨c, ?_⟩
      rw [← c, Int.toNat_natCast]
      exact (ord_iff x).2 ⟨a, fun y hy => by have := b y hy; omega⟩
    · rintro ⟨c, s⟩
      rw [← c, Int.toNat_natCast] at s
      obtain ⟨a, b⟩ := (ord_iff x).1 s
      exact ⟨a, fun y hy => by have := b y hy; exact ⟨this.1, by omega, by simp⟩, c⟩
  rw [← e]
  exact h

/-- The reference's test of a policy. -/
theorem l3_ev (l0 : List (List Int)) (l1 : List Int) (h0 : ∀ x ∈ l0, x.length ≤ 1048576) (h1 : l1.length ≤ 1048576) : ∃ K, ∀ k, K ≤ k → ((spec_l03Order.f k l1 (l1.length : Int)).isSome && l0.all fun x => (spec_l03Order.f k x (l1.length : Int)).isSome) = true ∧ l3is k l0 l1 = validP l0 l1 := by
  obtain ⟨K1, k1⟩ := order_is l1 (l1.length : Int) (by omega) (by omega) h1
  have hall : ∀ (Y : List (List Int)), (∀ x ∈ Y, x.length ≤ 1048576) → ∃ K, ∀ k, K ≤ k → ∀ x ∈ Y, spec_l03Order.f k x (l1.length : Int) = some (ordB x (l1.length : Int)) := by
    intro Y
    induction Y with
    | nil => intro _; exact ⟨0, fun k _ x hx => by cases hx⟩
    | cons y Y ih =>
      intro h
      obtain ⟨K, hK⟩ := ih (fun x hx => h x (List.mem_cons_of_mem _ hx))
      obtain ⟨K2, hK2⟩ := order_is y (l1.length : Int) (by omega) (by omega) (h y (List.mem_cons_self ..))
      refine ⟨max K K2, fun k hk x hx => ?_⟩
      rcases List.mem_cons.1 hx with rfl | hx
      · exact hK2 k (by omega)
      · exact hK k (by omega) x hx
  obtain ⟨K0, k0⟩ := hall l0 h0
  refine ⟨max K0 K1, fun k hk => ?_⟩
  have e1 := k1 k (by omega)
  have e0 := k0 k (by omega)
  have e1' : spec_l03Order.f k l1 (l1.length : Int) = some (ordB l1 (l1.length : Int)) := e1
  refine ⟨by
    rw [Bool.and_eq_true, List.all_eq_true]
    exact ⟨by rw [e1']; rfl, fun x hx => by rw [e0 x hx]; rfl⟩, ?_⟩
  have q : ∀ x, spec_l03Order.f k x (l1.length : Int) = some (ordB x (l1.length : Int)) → l3o k x (l1.length : Int) = ordB x (l1.length : Int) := fun x hx => by
    unfold l3o; rw [hx]; cases ordB x (l1.length : Int) <;> rfl
  have ea : (l0.all fun x => l3o k x (l1.length : Int)) = (l0.all fun x => ordB x (l1.length : Int)) := by
    rw [Bool.eq_iff_iff, List.all_eq_true, List.all_eq_true]
    exact forall_congr' fun x => forall_congr' fun hx => by rw [q x (e0 x hx)]
  unfold l3is validP
  rw [ea, q l1 e1']
  generalize (l0.all fun x => ordB x (l1.length : Int)) = b4
  generalize ordB l1 (l1.length : Int) = b3
  rw [Bool.eq_iff_iff]
  simp only [Bool.and_eq_true, Bool.not_eq_true', decide_eq_false_iff_not, decide_eq_true_eq, bne_eq_false_iff_eq]
  constructor
  · rintro ⟨a, b, c, d⟩
    exact ⟨by omega, by omega, d⟩
  · rintro ⟨a, b, d⟩
    exact ⟨by omega, by omega, by omega, d⟩

/-! the set of a list: rising, each number once -/
def SS (l : List Int) : Prop := l.Pairwise (· < ·)
theorem ss_eq : ∀ (a b : List Int), SS a → SS b → (∀ x, x ∈ a ↔ x ∈ b) → a = b
  | [], [], _, _, _ => rfl
  | [], y :: b, _, _, h => by have := (h y).2 (List.mem_cons_self ..); cases this
  | x :: a, [], _, _, h => by have := (h x).1 (List.mem_cons_self ..); cases this
  | x :: a, y :: b, ha, hb, h => by
    have ha' := List.pairwise_cons.1 ha
    have hb' := List.pairwise_cons.1 hb
    have e : x = y := by
      rcases List.mem_cons.1 ((h x).1 (List.mem_cons_self ..)) with e | e
      · exact e
      · rcases List.mem_cons.1 ((h y).2 (List.mem_cons_self ..)) with e2 | e2
        · exact e2.symm
        · have h1 := hb'.1 x e
          have h2 := ha'.1 y e2
          omega
    subst e
    rw [ss_eq a b ha'.2 hb'.2 (fun z => ⟨fun hz => ?_, fun hz => ?_⟩)]
    · rcases List.mem_cons.1 ((h z).1 (List.mem_cons_of_mem _ hz)) with e | e
      · have := ha'.1 z hz; omega
      · exact e
    · rcases List.mem_cons.1 ((h z).2 (List.mem_cons_of_mem _ hz)) with e | e
      · have := hb'.1 z hz; omega
      · exact e
theorem compact_mem (ts : List Int) (y : Int) : y ∈ Lib.compact ts ↔ y ∈ ts := by
  unfold Lib.compact Lib.compactUpTo
  rw [List.mem_map]
  constructor
  · rintro ⟨i, hi, rfl⟩
    rw [List.mem_filter, List.mem_range] at hi
    have : ts.toArray[i]! = ts[i]'hi.1 := by simp [hi.1]
    rw [this]
    exact List.getElem_mem _
  · intro hy
    obtain ⟨i, hi, rfl⟩ := List.getElem_of_mem hy
    have key : ∀ (n j : Nat), j ≤ n → (hj : j < ts.length) → ∃ q, q ∈ (List.range ts.length).filter (Lib.keeps ts.toArray) ∧ ts.toArray[q]! = ts[j]'hj := by
      intro n
      induction n with
      | zero =>
        intro j h0 hj
        have : j = 0 := by omega
        subst this
        exact ⟨0, by rw [List.mem_filter, List.mem_range]; exact ⟨hj, Lib.keeps_lt_one _ 0 (by omega)⟩, by simp [hj]⟩
      | succ n ih =>
        intro j h0 hj
        by_cases h : j ≤ n
        · exact ih j h hj
        · have e : j = n + 1 := by omega
          subst e
          by_cases g : ts.toArray[n + 1]! = ts.toArray[n]!
          · obtain ⟨q, hq, he⟩ := ih n (Nat.le_refl _) (by omega)
            refine ⟨q, hq, he.trans ?_⟩
            have e1 : ts.toArray[n + 1]! = ts[n + 1]'hj := by simp [hj]
            have e2 : ts.toArray[n]! = ts[n]'(by omega) := by simp [show n < ts.length by omega]
            rw [← e1, ← e2, g]
          · exact ⟨n + 1, by rw [List.mem_filter, List.mem_range]; exact ⟨hj, Lib.keeps_pos g⟩, by simp [hj]⟩
    exact key i i (Nat.le_refl _) hi
theorem compact_ss (ts : List Int) (h : ts.Pairwise (· ≤ ·)) : SS (Lib.compact ts) := by
  unfold SS Lib.compact Lib.compactUpTo
  rw [List.pairwise_map]
  refine List.Pairwise.imp_of_mem ?_ ((List.pairwise_lt_range (n := ts.length)).filter (Lib.keeps ts.toArray))
  intro i j hi hj hij
  rw [List.mem_filter, List.mem_range] at hi hj
  have hk := hj.2
  unfold Lib.keeps at hk
  have hk := of_decide_eq_true hk
  rcases hk with hk | hk
  · omega
  · rw [List.pairwise_iff_getElem] at h
    have e1 : ts.toArray[i]! = ts[i]'hi.1 := by simp [hi.1]
    have e2 : ts.toArray[j]! = ts[j]'hj.1 := by simp [hj.1]
    have e3 : ts.toArray[j - 1]! = ts[j - 1]'(by omega) := by simp [show j - 1 < ts.length by omega]
    rw [e2, e3] at hk
    rw [e1, e2]
    have l1 : ts[j - 1]'(by omega) ≤ ts[j]'hj.1 := h (j - 1) j (by omega) hj.1 (by omega)
    have l2 : ts[i]'hi.1 ≤ ts[j - 1]'(by omega) := by
      by_cases e : i = j - 1
      · subst e; exact Int.le_refl _
      · exact h i (j - 1) hi.1 (by omega) (by omega)
    omega
theorem setL_ss (l : List Int) : SS (SetOf.setL l) := by
  unfold SetOf.setL
  refine compact_ss _ ?_
  have := List.pairwise_mergeSort (le := fun x y : Int => decide (x ≤ y)) (fun a b c h1 h2 => by simp at h1 h2 ⊢; omega) (fun a b => by simp; omega) l
  exact this.imp (fun h => by simpa using h)
theorem setL_mem (l : List Int) (y : Int) : y ∈ SetOf.setL l ↔ y ∈ l := by
  unfold SetOf.setL
  rw [compact_mem, List.mem_mergeSort]
theorem setL_len (l : List Int) : (SetOf.setL l).length ≤ l.length := by
  unfold SetOf.setL Lib.compact Lib.compactUpTo
  rw [List.length_map]
  refine Nat.le_trans (List.length_filter_le _ _) ?_
  rw [List.length_range, List.length_mergeSort]
  exact Nat.le_refl _
def ins (n : Int) : List Int → List Int
  | [] => [n]
  | x :: r => if x > n then n :: x :: r else if x = n then x :: r else x :: ins n r
theorem ins_mem (n y : Int) : ∀ l, y ∈ ins n l ↔ y = n ∨ y ∈ l
  | [] => by simp [ins]
  | x :: r => by
    rw [ins]
    split
    · simp
    · split
      · rename_i h; subst h; simp
      · rw [List.mem_cons, ins_mem n y r, List.mem_cons]
        constructor
        · rintro (h | h | h)
          · exact .inr (.inl h)
          · exact .inl h
          · exact .inr (.inr h)
        · rintro (h | h | h)
          · exact .inr (.inl h)
          · exact .inl h
          · exact .inr (.inr h)
theorem ins_ss (n : Int) : ∀ l, SS l → SS (ins n l)
  | [], _ => List.pairwise_singleton _ _
  | x :: r, h => by
    have h' := List.pairwise_cons.1 h
    rw [ins]
    split
    · refine List.pairwise_cons.2 ⟨fun y hy => ?_, h⟩
      rcases List.mem_cons.1 hy with e | e
      · omega
      · have := h'.1 y e; omega
    · split
      · exact h
      · refine List.pairwise_cons.2 ⟨fun y hy => ?_, ins_ss n r h'.2⟩
        rcases (ins_mem n y r).1 hy with e | e
        · omega
        · exact h'.1 y e
theorem ins_len (n : Int) : ∀ l, (ins n l).length ≤ l.length + 1
  | [] => by simp [ins]
  | x :: r => by
    rw [ins]
    split
    · simp
    · split
      · simp
      · have := ins_len n r; simp; omega
theorem ins_setL (n : Int) (l : List Int) : ins n (SetOf.setL l) = SetOf.setL (l ++ [n]) := by
  refine ss_eq _ _ (ins_ss _ _ (setL_ss _)) (setL_ss _) (fun x => ?_)
  rw [ins_mem, setL_mem, setL_mem, List.mem_append, List.mem_singleton]
  exact Or.comm
theorem setL_nil : SetOf.setL [] = [] := List.eq_nil_of_length_eq_zero (by have := setL_len []; simpa using this)
theorem setL_one (n : Int) : SetOf.setL [n] = [n] := by
  have := ins_setL n []
  rw [setL_nil, List.nil_append] at this
  exact this.symm
theorem impl_set (l : List Int) (h : l.length ≤ 1048576) : impl_setOf.f l = some (SetOf.setL l) := by
  unfold impl_setOf.f
  rw [if_pos h]

/-! contents: what both tests say -/
theorem consB_iff (C : List Int) : ∀ (d i : Nat), consB C d i = true ↔ ∀ j, i ≤ j → j < i + d → conB C j = true
  | 0, i => ⟨fun _ j h1 h2 => by omega, fun _ => rfl⟩
  | d + 1, i => by
    rw [consB, Bool.and_eq_true, consB_iff C d (i + 1)]
    constructor
    · rintro ⟨h, g⟩ j h1 h2
      by_cases e : j = i
      · subst e; exact h
      · exact g j (by omega) (by omega)
    · exact fun h => ⟨h i (Nat.le_refl _) (by omega), fun j h1 h2 => h j (by omega) (by omega)⟩
theorem ins_len_new (n : Int) : ∀ l, n ∉ l → (ins n l).length = l.length + 1
  | [], _ => rfl
  | x :: l, h => by
    have h1 : n ≠ x := fun e => h (e ▸ List.mem_cons_self ..)
    have h2 : n ∉ l := fun e => h (List.mem_cons_of_mem _ e)
    have ih := ins_len_new n l h2
    unfold ins
    split
    · simp
    · split
      · omega
      · simp [ih]
theorem set_snoc (l : List Int) (n : Int) : ((SetOf.setL (l ++ [n])).length = (l ++ [n]).length) ↔ ((SetOf.setL l).length = l.length ∧ n ∉ l) := by
  have hle := setL_len l
  rw [List.length_append, List.length_singleton]
  by_cases h : n ∈ l
  · have e : SetOf.setL (l ++ [n]) = SetOf.setL l := ss_eq _ _ (setL_ss _) (setL_ss _) (fun x => by
      rw [setL_mem, setL_mem, List.mem_append, List.mem_singleton]
      exact ⟨fun q => q.elim id (fun e => e ▸ h), .inl⟩)
    rw [e]
    exact ⟨fun q => by omega, fun q => absurd h q.2⟩
  · rw [← ins_setL, ins_len_new n _ (fun q => h ((setL_mem l n).1 q))]
    exact ⟨fun q => ⟨by omega, h⟩, fun q => by omega⟩
theorem told_snoc (l : List Int) (n : Int) : toldL (l ++ [n]) = toldL l ++ (if n < 0 then [] else [n]) := by
  unfold toldL
  rw [List.filter_append]
  by_cases h : n < 0
  · rw [if_pos h]; simp [h]
  · rw [if_neg h]; simp [h]
theorem told_iff (C : List Int) : ∀ i, i ≤ C.length → (((SetOf.setL (toldL (C.take i))).length = (toldL (C.take i)).length) ↔ ∀ j, j < i → C.getD j 0 ≥ 0 → C.getD j 0 ∉ C.take j)
  | 0, _ => ⟨fun _ j h => by omega, fun _ => by rw [List.take_zero]; show (SetOf.setL []).length = 0; rw [setL_nil]; rfl⟩
  | i + 1, hi => by
    have ih := told_iff C i (by omega)
    have e := take_snoc C i (by omega)
    rw [rd_nat] at e
    rw [e, told_snoc]
    by_cases h : C.getD i 0 < 0
    · rw [if_pos h, List.append_nil, ih]
      constructor
      · intro g j hj h0
        by_cases q : j = i
        · subst q; omega
        · exact g j (by omega) h0
      · exact fun g j hj => g j (by omega)
    · rw [if_neg h, set_snoc, ih]
      have hm : C.getD i 0 ∈ toldL (C.take i) ↔ C.getD i 0 ∈ C.take i := by
        unfold toldL
        rw [List.mem_filter]
        exact ⟨fun q => q.1, fun q => ⟨q, by rw [Bool.not_eq_true', decide_eq_false_iff_not]; exact h⟩⟩
      rw [hm]
      constructor
      · rintro ⟨g, g2⟩ j hj h0
        by_cases q : j = i
        · subst q; exact g2
        · exact g j (by omega) h0
      · exact fun g => ⟨fun j hj => g j (by omega), g i (by omega) (by omega)⟩
theorem contents_same (C : List Int) : consB C C.length 0 = ((C.all fun x => decide (-1 ≤ x) && decide (x ≤ 63)) && decide ((SetOf.setL (toldL C)).length = (toldL C).length)) := by
  have h := told_iff C C.length (Nat.le_refl _)
  rw [List.take_length] at h
  rw [Bool.eq_iff_iff, consB_iff, Bool.and_eq_true, decide_eq_true_eq, h, List.all_eq_true]
  have hget : ∀ j, j < C.length → C.getD j 0 ∈ C := fun j hj => by have := rd_mem C j hj; rwa [rd_nat] at this
  constructor
  · intro g
    refine ⟨fun x hx => ?_, fun j hj h0 hm => ?_⟩
    · obtain ⟨j, hj, e⟩ := List.mem_iff_getElem.1 hx
      have q := g j (Nat.zero_le _) (by omega)
      unfold conB at q
      rw [Bool.and_eq_true] at q
      have e2 : C.getD j 0 = x := by rw [List.getD_eq_getElem?_getD, List.getElem?_eq_getElem hj]; exact e
      rw [e2] at q
      exact q.1
    · have q := g j (Nat.zero_le _) (by omega)
      unfold conB at q
      rw [Bool.and_eq_true, Bool.not_eq_true', Bool.and_eq_false_iff] at q
      rcases q.2 with q | q
      · exact absurd h0 (of_decide_eq_false q)
      · rw [List.contains_eq_mem] at q
        exact absurd hm (of_decide_eq_false q)
  · rintro ⟨g1, g2⟩ j _ hj
    unfold conB
    rw [Bool.and_eq_true, Bool.not_eq_true', Bool.and_eq_false_iff]
    refine ⟨g1 _ (hget j (by omega)), ?_⟩
    by_cases h0 : C.getD j 0 ≥ 0
    · right
      rw [List.contains_eq_mem]
      exact decide_eq_false (g2 j (by omega) h0)
    · exact .inl (decide_eq_false h0)

theorem FnExactValidContents : laws_FnExactValidContents.Pure := by
  intro l0 l1 l2 hl0 hl1 hl2
  refine Ev.rounds (r := true) ?_
  unfold laws_FnExactValidContents.f
  by_cases hbig : (l2.length : Int) > 1048576
  · simp only [if_pos hbig]
    exact Ev.now _
  have h2 : l2.length ≤ 1048576 := by omega
  simp only [if_neg hbig]
  obtain ⟨z, ez, hz⟩ := szP l0 l1 hl0.1 (fun x hx => (hl0.2 x hx).1) hl1.1
  refine Ev.bind ez ?_
  rcases hz with hz | ⟨hz, h1, hX, hx⟩
  · simp only [if_pos hz]
    exact Ev.now _
  simp only [if_neg (show ¬ z < 0 by omega)]
  have et := toP l0 l1 hX hx h1
  have ec := toInts l2 (by omega)
  have es : Ev (fun k => spec_ValidContents.f k l0 l1 l2) (validC l0 l1 l2) := by
    obtain ⟨K, hK⟩ := l3_ev l0 l1 hx h1
    refine ⟨K, fun k hk => ?_⟩
    obtain ⟨a, b⟩ := hK k hk
    show spec_ValidContents.f k l0 l1 l2 = some (validC l0 l1 l2)
    unfold spec_ValidContents.f
    rw [if_pos ⟨show spec_ValidContents.ok k l0 l1 = true from a, h2⟩, b, contents_same]
    unfold validC
    generalize validP l0 l1 = p
    generalize (l2.all fun x => decide (-1 ≤ x) && decide (x ≤ 63)) = q
    generalize decide ((SetOf.setL (toldL l2)).length = (toldL l2).length) = s
    generalize decide (l2.length = l1.length) = t
    cases p <;> cases q <;> cases s <;> cases t <;> rfl
  have ei : impl_ValidContents.f l0 l1 l2 = some (validC l0 l1 l2) := by
    unfold impl_ValidContents.f
    rw [if_pos ⟨h1, hx⟩]
  refine Ev.bind et (Ev.bind ec (Ev.bind es (Ev.bind et (Ev.bind ec ?_))))
  simp only [ei, Option.bind_some, bne_self_eq_false, if_neg (show ¬ (false = true) by decide)]
  refine Ev.bind et (Ev.bind (eqP l0 l1 hX hx h1) ?_)
  simp only [if_true]
  refine Ev.bind ec (Ev.bind (eqs l2 (by omega)) ?_)
  simp only [if_true]
  exact Ev.now _

end Go.Proofs.Yteoacngaicchiaa.Pure
