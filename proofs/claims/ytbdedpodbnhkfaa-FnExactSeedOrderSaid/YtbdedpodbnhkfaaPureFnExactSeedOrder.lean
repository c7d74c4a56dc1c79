/- The program's SeedOrder returns what the reference's returns, for all numbers, in new memory. Conditions: those of the row alone. -/
import Derived.Test.YtbdedpodbnhkfaaPFnExactSeedOrderx2
namespace Go.Proofs.Ytbdedpodbnhkfaa.Pure
open Go.RowKit Go.Proofs.Ytbdedpodbnhkfaa.PFnExactSeedOrder Go.Proofs.YtbdedpodbnhkfaaW.PrintWords Go.Proofs.YtbdedpodbnhkfaaW.PrintLast Go.Proofs.YtbdedpodbnhkfaaW.PrintMore
set_option linter.unusedVariables false
set_option linter.unusedSimpArgs false

theorem wid {x : Int} (h1 : -9223372036854775808 ≤ x) (h2 : x < 9223372036854775808) : wrap64 x = x := by unfold wrap64; omega
theorem i64_bd {x : Int} (h : (Lit.int .i64 x).wf = true) : -9223372036854775808 ≤ x ∧ x ≤ 9223372036854775807 := by
  simp only [Lit.wf, IntKind.min, IntKind.max, IntKind.signed, IntKind.bits, Bool.and_eq_true, decide_eq_true_eq, if_true] at h
  omega
/-- A loop's step, its answer known at once. -/
theorem ev_ret {α : Type} {g : Nat → Option α} {r : α} (h : ∀ k, g (k + 1) = some r) : Ev g r := Ev.step (f := fun _ => some r) h (Ev.now r)
theorem ev_all {α : Type} {g : Nat → Option α} {r : α} (h : ∀ k, g k = some r) : Ev g r := ⟨0, fun k _ => h k⟩

/-- The seed after a seed. -/
def nxt (s : Int) : Int := (48271 * s) % 2147483647
theorem nxt_bd {s : Int} : 0 ≤ nxt s ∧ nxt s ≤ 2147483646 := by unfold nxt; omega
theorem impl_nxt {s : Int} (h0 : 0 ≤ s) (h1 : s ≤ 2147483646) : impl_nextSeed.f s = some (nxt s) := by
  unfold impl_nextSeed.f nxt
  rw [wid (by omega) (by omega), Int.tmod_eq_emod_of_nonneg (by omega)]

/-- The numbers from i on, n of them. -/
def asc : Int → Nat → List Int
  | _, 0 => []
  | i, n + 1 => i :: asc (i + 1) n
theorem asc_len (n : Nat) : ∀ i, (asc i n).length = n := by
  induction n with
  | zero => intro i; rfl
  | succ n ih => intro i; simp [asc, ih]
theorem asc_get (n : Nat) : ∀ (i : Int) (j : Nat), j < n → (asc i n).getD j 0 = i + (j : Int) := by
  induction n with
  | zero => intro i j h; omega
  | succ n ih =>
    intro i j h
    cases j with
    | zero => simp [asc]
    | succ j =>
      rw [asc, List.getD_cons_succ, ih (i + 1) j (by omega)]
      omega
/-- Two elements change places. -/
def swp (xs : List Int) (i k : Nat) : List Int := (xs.set i (rd xs (k : Int))).set k (rd xs (i : Int))
theorem swp_len (xs : List Int) (i k : Nat) : (swp xs i k).length = xs.length := by unfold swp; simp
def shuf : Nat → Int → List Int → List Int × Int
  | 0, s, xs => (xs, s)
  | i + 1, s, xs => shuf i (nxt s) (swp xs (i + 1) (nxt s % ((i : Int) + 2)).toNat)
theorem shuf_len (n : Nat) : ∀ s xs, (shuf n s xs).1.length = xs.length := by
  induction n with
  | zero => intro s xs; rfl
  | succ n ih => intro s xs; rw [shuf, ih, swp_len]
theorem shuf_seed (n : Nat) : ∀ s xs, 1 ≤ s → s ≤ 2147483646 → 0 ≤ (shuf n s xs).2 ∧ (shuf n s xs).2 ≤ 2147483646 := by
  induction n with
  | zero => intro s xs h1 h2; exact ⟨by rw [shuf]; omega, by rw [shuf]; omega⟩
  | succ n ih =>
    intro s xs h1 h2
    rw [shuf]
    have hn := @nxt_bd s
    by_cases h : 1 ≤ nxt s
    · exact ih _ _ h hn.2
    · have : nxt s = 0 := by omega
      unfold nxt at this
      omega
def orderOf (s : Int) (n : Nat) : List Int × Int := shuf (n - 1) s (asc 0 n)
theorem orderOf_len (s : Int) (n : Nat) : (orderOf s n).1.length = n := by unfold orderOf; rw [shuf_len, asc_len]
theorem impl_asc (n : Nat) : ∀ (i cnt : Int) (acc : List Int), 0 ≤ i → cnt ≤ 100 → cnt - i = n → acc.length ≤ i.toNat → Ev (fun k => impl_ascending.l0 k acc cnt i) (acc ++ asc i n) := by
  induction n with
  | zero =>
    intro i cnt acc hi hc hd hl
    refine ev_ret (fun k => ?_)
    rw [impl_ascending.l0, if_neg (by omega), asc, List.append_nil]
  | succ n ih =>
    intro i cnt acc hi hc hd hl
    have e := ih (i + 1) cnt (acc ++ [i]) (by omega) hc (by omega) (by simp; omega)
    rw [asc, List.append_cons]
    refine Ev.step (fun k => ?_) e
    rw [impl_ascending.l0, if_pos (by omega), if_pos (by omega), wid (x := i + 1) (by omega) (by omega)]
theorem impl_shuf (n : Nat) : ∀ (s : Int) (xs : List Int), 0 ≤ s → s ≤ 2147483646 → n < xs.length ∨ n = 0 → xs.length ≤ 100 → Ev (fun k => impl_seedOrder.l0 k s xs (n : Int)) (shuf n s xs) := by
  induction n with
  | zero =>
    intro s xs h0 h1 hl hc
    refine ev_ret (fun k => ?_)
    rw [impl_seedOrder.l0, if_neg (by omega), shuf]
  | succ n ih =>
    intro s xs h0 h1 hl hc
    have hn := @nxt_bd s
    have hp : 0 ≤ nxt s % ((n : Int) + 2) := Int.emod_nonneg _ (by omega)
    have hq : nxt s % ((n : Int) + 2) < (n : Int) + 2 := Int.emod_lt_of_pos _ (by omega)
    have e := ih (nxt s) (swp xs (n + 1) (nxt s % ((n : Int) + 2)).toNat) hn.1 hn.2 (by rw [swp_len]; omega) (by rw [swp_len]; omega)
    rw [shuf]
    refine Ev.step (fun k => ?_) e
    have w1 : wrap64 (((n + 1 : Nat) : Int) + 1) = (n : Int) + 2 := by rw [wid (by omega) (by omega)]; omega
    have w2 : wrap64 (((n + 1 : Nat) : Int) - 1) = (n : Int) := by rw [wid (by omega) (by omega)]; omega
    rw [impl_seedOrder.l0, if_pos (by omega), impl_nxt h0 h1, Option.bind_some, w1, w2, Int.tmod_eq_emod_of_nonneg hn.1, if_neg (by omega), if_pos hp, if_pos (by omega), if_pos (by omega), if_pos (by omega)]
    unfold swp
    rw [Int.toNat_natCast, Int.toNat_of_nonneg hp]
theorem impl_order (s : Int) (n : Nat) (h0 : 0 ≤ s) (h1 : s ≤ 2147483646) (hn : n ≤ 100) : Ev (fun k => impl_seedOrder.f k s (n : Int)) (orderOf s n) := by
  unfold impl_seedOrder.f impl_ascending.f
  refine Ev.bind (impl_asc n 0 n [] (by omega) (by omega) (by omega) (by simp)) ?_
  rw [List.nil_append]
  cases n with
  | zero =>
    refine ev_ret (fun k => ?_)
    rw [show wrap64 (((0 : Nat) : Int) - 1) = -1 from by rw [wid (by omega) (by omega)]; rfl, impl_seedOrder.l0, if_neg (by omega)]
    rfl
  | succ n =>
    rw [show wrap64 (((n + 1 : Nat) : Int) - 1) = (n : Int) from by rw [wid (by omega) (by omega)]; omega]
    exact impl_shuf n s _ h0 h1 (by rw [asc_len]; omega) (by rw [asc_len]; omega)
def orderAns (a b : Int) : List Int × Bool := if 1 ≤ a ∧ a ≤ 2147483646 ∧ 0 ≤ b ∧ b ≤ 80 then ((orderOf a b.toNat).1, true) else ([], false)
theorem orderAns_len (a b : Int) : (orderAns a b).1.length ≤ 80 := by
  unfold orderAns
  by_cases h : 1 ≤ a ∧ a ≤ 2147483646 ∧ 0 ≤ b ∧ b ≤ 80
  · rw [if_pos h, orderOf_len]; omega
  · rw [if_neg h]; simp
theorem impl_seedOrderF (a b : Int) : Ev (fun k => impl_SeedOrder.f k a b) (orderAns a b) := by
  unfold impl_SeedOrder.f impl_isSeed.f impl_inRange.f orderAns
  by_cases h1 : 1 ≤ a <;> by_cases h2 : a ≤ 2147483646 <;> by_cases h3 : 0 ≤ b <;> by_cases h4 : b ≤ 80 <;> simp [h1, h2, h3, h4, Ev.now]
  obtain ⟨n, rfl⟩ := Int.eq_ofNat_of_zero_le h3
  exact Ev.bind (impl_order a n (by omega) h2 (by omega)) (Ev.now _)

theorem spec_nxt {s : Int} (h0 : 0 ≤ s) (h1 : s ≤ 2147483646) : spec_l01Next.f s = some (nxt s) := by
  unfold spec_l01Next.f nxt
  rw [wid (by omega) (by omega), Int.tmod_eq_emod_of_nonneg (by omega)]
theorem spec_shuf (n : Nat) : ∀ (s : Int) (xs : List Int), 0 ≤ s → s ≤ 2147483646 → n < xs.length ∨ n = 0 → xs.length ≤ 100 → Ev (fun k => spec_l01Order.l1 k s xs (n : Int)) (shuf n s xs) := by
  induction n with
  | zero =>
    intro s xs h0 h1 hl hc
    refine ev_ret (fun k => ?_)
    rw [spec_l01Order.l1, if_neg (by omega), shuf]
  | succ n ih =>
    intro s xs h0 h1 hl hc
    have hn := @nxt_bd s
    have hp : 0 ≤ nxt s % ((n : Int) + 2) := Int.emod_nonneg _ (by omega)
    have hq : nxt s % ((n : Int) + 2) < (n : Int) + 2 := Int.emod_lt_of_pos _ (by omega)
    have e := ih (nxt s) (swp xs (n + 1) (nxt s % ((n : Int) + 2)).toNat) hn.1 hn.2 (by rw [swp_len]; omega) (by rw [swp_len]; omega)
    rw [shuf]
    refine Ev.step (fun k => ?_) e
    have w1 : wrap64 (((n + 1 : Nat) : Int) + 1) = (n : Int) + 2 := by rw [wid (by omega) (by omega)]; omega
    have w2 : wrap64 (((n + 1 : Nat) : Int) - 1) = (n : Int) := by rw [wid (by omega) (by omega)]; omega
    rw [spec_l01Order.l1, if_pos (by omega), spec_nxt h0 h1, Option.bind_some, w1, w2, Int.tmod_eq_emod_of_nonneg hn.1]
    rw [if_neg (by omega), if_pos (by omega), if_pos (by omega), if_pos hp, if_pos (by omega)]
    unfold swp
    rw [Int.toNat_natCast, Int.toNat_of_nonneg hp]
theorem spec_asc (s : Int) (n : Nat) : ∀ (i cnt : Int) (acc : List Int) (r : List Int × Int), 0 ≤ i → cnt ≤ 100 → cnt - i = n → acc.length ≤ i.toNat → Ev (fun k => spec_l01Order.l1 k s (acc ++ asc i n) (cnt - 1)) r → Ev (fun k => spec_l01Order.l0 k s cnt acc i) r := by
  induction n with
  | zero =>
    intro i cnt acc r hi hc hd hl h
    rw [asc, List.append_nil] at h
    refine Ev.step (fun k => ?_) h
    rw [spec_l01Order.l0, if_neg (by omega), wid (by omega) (by omega)]
  | succ n ih =>
    intro i cnt acc r hi hc hd hl h
    rw [asc, List.append_cons] at h
    refine Ev.step (fun k => ?_) (ih (i + 1) cnt (acc ++ [i]) r (by omega) hc (by omega) (by simp; omega) h)
    rw [spec_l01Order.l0, if_pos (by omega), if_pos (by omega), wid (x := i + 1) (by omega) (by omega)]
theorem spec_order (s : Int) (n : Nat) (h0 : 0 ≤ s) (h1 : s ≤ 2147483646) (hn : n ≤ 100) : Ev (fun k => spec_l01Order.f k s (n : Int)) (orderOf s n) := by
  unfold spec_l01Order.f
  refine spec_asc s n 0 n [] _ (by omega) (by omega) (by omega) (by simp) ?_
  rw [List.nil_append]
  cases n with
  | zero =>
    refine ev_ret (fun k => ?_)
    rw [spec_l01Order.l1, if_neg (by omega)]
    rfl
  | succ n =>
    rw [show ((n + 1 : Nat) : Int) - 1 = (n : Int) by omega]
    exact spec_shuf n s _ h0 h1 (by rw [asc_len]; omega) (by rw [asc_len]; omega)

/-- A list is equal to itself. -/
theorem eqs_l (a : List Int) (ha : a.length ≤ 140737488355328) (d : Nat) : ∀ (i : Int), 0 ≤ i → (a.length : Int) - i = d → Ev (fun k => laws_eqInt64S.l0 k a a i) true := by
  induction d with
  | zero => intro i h0 hd; exact ev_ret (fun k => by rw [laws_eqInt64S.l0, if_neg (by omega)])
  | succ d ih =>
    intro i h0 hd
    refine Ev.step (fun k => ?_) (ih (i + 1) (by omega) (by omega))
    rw [laws_eqInt64S.l0, if_pos (by omega), if_pos h0, if_pos (by omega), if_pos rfl, wid (x := i + 1) (by omega) (by omega)]
theorem eqs (a : List Int) (ha : a.length ≤ 140737488355328) : Ev (fun k => laws_eqInt64S.f k a a) true := by
  unfold laws_eqInt64S.f
  simp only [if_true]
  exact eqs_l a ha a.length 0 (by omega) (by omega)

/-- A list whose numbers go up one by one from a on, as far as index i. -/
def Upto (a : Int) (n : Nat) (xs : List Int) (i : Nat) : Prop := xs.length = n ∧ ∀ j, j < i → xs.getD j 0 = a + (j : Int)
theorem upto_set {a : Int} {n i : Nat} {xs : List Int} (h : Upto a n xs i) (hi : i < n) : Upto a n (xs.set i (a + (i : Int))) (i + 1) := by
  refine ⟨by rw [List.length_set]; exact h.1, fun j hj => ?_⟩
  have hl := h.1
  rw [List.getD_eq_getElem?_getD, List.getElem?_set]
  by_cases e : i = j
  · subst e
    rw [if_pos rfl, if_pos (by omega)]
    rfl
  · rw [if_neg e, ← List.getD_eq_getElem?_getD]
    exact h.2 j (by omega)
theorem mark_l (a : Int) (n : Nat) (h1 : 0 ≤ a) (h2 : a ≤ 4611686018427387904) (hn : n ≤ 140737488355328) (d : Nat) : ∀ (i : Nat) (xs : List Int), Upto a n xs i → n - i = d → i ≤ n →
    ∃ ys, Ev (fun k => laws_markInt64S.l0 k xs (a + (i : Int)) (i : Int)) (a + (n : Int), ys) ∧ Upto a n ys n := by
  induction d with
  | zero =>
    intro i xs h hd hi
    have e : i = n := by omega
    subst e
    have hl := h.1
    exact ⟨xs, ev_ret (fun k => by rw [laws_markInt64S.l0, if_neg (by omega)]), h⟩
  | succ d ih =>
    intro i xs h hd hi
    have hl := h.1
    obtain ⟨ys, e, hy⟩ := ih (i + 1) _ (upto_set h (by omega)) (by omega) (by omega)
    refine ⟨ys, Ev.step (fun k => ?_) e, hy⟩
    rw [laws_markInt64S.l0, if_pos (by omega), if_pos (by omega), wid (x := a + (i : Int) + 1) (by omega) (by omega), wid (x := (i : Int) + 1) (by omega) (by omega), Int.toNat_natCast]
    rw [show a + ((i + 1 : Nat) : Int) = a + (i : Int) + 1 by omega, show ((i + 1 : Nat) : Int) = (i : Int) + 1 by omega]
theorem held_l (a : Int) (n : Nat) (ys : List Int) (h1 : 0 ≤ a) (h2 : a ≤ 4611686018427387904) (hn : n ≤ 140737488355328) (h : Upto a n ys n) (d : Nat) : ∀ (i : Nat), n - i = d → i ≤ n →
    Ev (fun k => laws_heldInt64S.l0 k ys (a + (i : Int)) (i : Int)) (a + (n : Int)) := by
  have hl := h.1
  induction d with
  | zero =>
    intro i hd hi
    have e : i = n := by omega
    subst e
    exact ev_ret (fun k => by rw [laws_heldInt64S.l0, if_neg (by omega)])
  | succ d ih =>
    intro i hd hi
    refine Ev.step (fun k => ?_) (ih (i + 1) (by omega) (by omega))
    have hr : rd ys (i : Int) = a + (i : Int) := by unfold rd; rw [Int.toNat_natCast]; exact h.2 i (by omega)
    rw [laws_heldInt64S.l0, if_pos (by omega), if_pos (by omega), if_pos hr, wid (x := a + (i : Int) + 1) (by omega) (by omega), wid (x := (i : Int) + 1) (by omega) (by omega)]
    rw [show a + ((i + 1 : Nat) : Int) = a + (i : Int) + 1 by omega, show ((i + 1 : Nat) : Int) = (i : Int) + 1 by omega]
/-- What is marked is held. -/
theorem mark_held (a : Int) (xs : List Int) (h1 : 0 ≤ a) (h2 : a ≤ 4611686018427387904) (hn : xs.length ≤ 140737488355328) :
    ∃ ys, Ev (fun k => laws_markInt64S.f k xs a) (a + (xs.length : Int), ys) ∧ Ev (fun k => laws_heldInt64S.f k ys a) (a + (xs.length : Int)) := by
  obtain ⟨ys, e, hy⟩ := mark_l a xs.length h1 h2 hn xs.length 0 xs ⟨rfl, fun j hj => by omega⟩ (by omega) (by omega)
  have e2 := held_l a xs.length ys h1 h2 hn hy xs.length 0 (by omega) (by omega)
  refine ⟨ys, ?_, ?_⟩
  · simpa [laws_markInt64S.f] using e
  · simpa [laws_heldInt64S.f] using e2

theorem both (a b : Int) : ∃ r, Ev (fun k => spec_SeedOrder.f k a b) r ∧ Ev (fun k => impl_SeedOrder.f k a b) r ∧ r.1.length ≤ 1000000 := by
  refine ⟨orderAns a b, ?_, impl_seedOrderF a b, by have := orderAns_len a b; omega⟩
  unfold spec_SeedOrder.f spec_l01Seed.f spec_l00In.f orderAns
  by_cases h1 : 1 ≤ a <;> by_cases h2 : a ≤ 2147483646 <;> by_cases h3 : 0 ≤ b <;> by_cases h4 : b ≤ 80 <;> simp [h1, h2, h3, h4, Ev.now]
  obtain ⟨n, rfl⟩ := Int.eq_ofNat_of_zero_le h3
  exact Ev.bind (f := fun _ t => some (t.1, true)) (spec_order a n (by omega) h2 (by omega)) (Ev.now _)
theorem FnExactSeedOrder : laws_FnExactSeedOrder.Pure := by
  intro a b _ _
  refine Ev.rounds (r := true) ?_
  obtain ⟨r, es, ei, hr⟩ := both a b
  obtain ⟨ys, hm, hh⟩ := mark_held 1 r.1 (by omega) (by omega) (by omega)
  unfold laws_FnExactSeedOrder.f
  refine Ev.bind es (Ev.bind ei (Ev.bind (eqs _ (by omega)) ?_))
  simp only [bne_self_eq_false, if_true]
  refine Ev.step (fun k => by rw [laws_FnExactSeedOrder.j0, if_neg (by decide)]) ?_
  refine Ev.bind hm (Ev.bind hh ?_)
  simp only [if_neg (show ¬ (1 + (r.1.length : Int) < 0) by omega), if_true]
  refine Ev.bind ei (Ev.bind (eqs _ (by omega)) ?_)
  simp only [bne_self_eq_false, if_true]
  refine Ev.step (fun k => by rw [laws_FnExactSeedOrder.j1, if_neg (by decide)]) ?_
  refine Ev.bind hh (ev_all fun k => ?_)
  rw [if_neg (by omega), if_pos rfl]


end Go.Proofs.Ytbdedpodbnhkfaa.Pure
