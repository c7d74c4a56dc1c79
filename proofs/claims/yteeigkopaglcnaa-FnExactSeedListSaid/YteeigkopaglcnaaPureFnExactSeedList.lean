/- The program's SeedList returns what the reference's returns, for all numbers, in new memory. Conditions: those of the row alone. -/
import Derived.Test.YteeigkopaglcnaaPFnExactSeedListx2
namespace Go.Proofs.Yteeigkopaglcnaa.Pure
open Go.RowKit Go.Proofs.Yteeigkopaglcnaa.PFnExactSeedList Go.Proofs.YteeigkopaglcnaaW.PrintWords Go.Proofs.YteeigkopaglcnaaW.PrintLast Go.Proofs.YteeigkopaglcnaaW.PrintMore
set_option linter.unusedVariables false
set_option linter.unusedSimpArgs false

theorem wid {x : Int} (h1 : -9223372036854775808 ≤ x) (h2 : x < 9223372036854775808) : wrap64 x = x := by unfold wrap64; omega
theorem i64_bd {x : Int} (h : (Lit.int .i64 x).wf = true) : -9223372036854775808 ≤ x ∧ x ≤ 9223372036854775807 := by
  simp only [Lit.wf, IntKind.min, IntKind.max, IntKind.signed, IntKind.bits, Bool.and_eq_true, decide_eq_true_eq, if_true] at h
  omega
/-- A loop's step, its answer known at once. -/
theorem ev_ret {α : Type} {g : Nat → Option α} {r : α} (h : ∀ k, g (k + 1) = some r) : Ev g r := Ev.step (f := fun _ => some r) h (Ev.now r)
theorem ev_all {α : Type} {g : Nat → Option α} {r : α} (h : ∀ k, g k = some r) : Ev g r := ⟨0, fun k _ => h k⟩

/-- The seed after a seed. -/
def nxt (s : Int) : Int := (48271 * s) % 2147483647
/-- The numbers that follow. -/
def drawn (below : Int) : Int → Nat → List Int
  | _, 0 => []
  | s, n + 1 => (nxt s % below) :: drawn below (nxt s) n
theorem drawn_len (below : Int) (n : Nat) : ∀ s, (drawn below s n).length = n := by
  induction n with
  | zero => intro s; rfl
  | succ n ih => intro s; simp [drawn, ih]
theorem nxt_bd {s : Int} : 0 ≤ nxt s ∧ nxt s ≤ 2147483646 := by unfold nxt; omega
theorem impl_nxt {s : Int} (h0 : 0 ≤ s) (h1 : s ≤ 2147483646) : impl_nextSeed.f s = some (nxt s) := by
  unfold impl_nextSeed.f nxt
  rw [wid (by omega) (by omega), Int.tmod_eq_emod_of_nonneg (by omega)]
theorem impl_seeds (below : Int) (hb : 1 ≤ below) (n : Nat) : ∀ (s i cnt : Int) (acc : List Int), 0 ≤ s → s ≤ 2147483646 → 0 ≤ i → cnt ≤ 100 → cnt - i = n → acc.length ≤ i.toNat →
    Ev (fun k => impl_SeedList.l0 k s below acc cnt i) (acc ++ drawn below s n, true) := by
  induction n with
  | zero =>
    intro s i cnt acc h0 h1 hi hc hd hl
    refine ev_ret (fun k => ?_)
    rw [impl_SeedList.l0, if_neg (by omega), drawn, List.append_nil]
  | succ n ih =>
    intro s i cnt acc h0 h1 hi hc hd hl
    have hn := @nxt_bd s
    have e := ih (nxt s) (i + 1) cnt (acc ++ [nxt s % below]) hn.1 hn.2 (by omega) hc (by omega) (by simp; omega)
    rw [drawn, List.append_cons]
    refine Ev.step (fun k => ?_) e
    rw [impl_SeedList.l0, if_pos (by omega), impl_nxt h0 h1, Option.bind_some, if_neg (by omega), if_pos (by omega), wid (x := i + 1) (by omega) (by omega), Int.tmod_eq_emod_of_nonneg hn.1]
def seedsOk (a b c : Int) : Bool := decide (1 ≤ a ∧ a ≤ 2147483646 ∧ 0 ≤ b ∧ b ≤ 80 ∧ 1 ≤ c ∧ c ≤ 1000000000)
def seedsOf (a b c : Int) : List Int × Bool := if seedsOk a b c then (drawn c a b.toNat, true) else ([], false)
theorem seedsOf_len (a b c : Int) : (seedsOf a b c).1.length ≤ 80 := by
  unfold seedsOf
  by_cases h : seedsOk a b c = true
  · rw [if_pos h, drawn_len]
    have := of_decide_eq_true h
    omega
  · rw [if_neg h]; simp
theorem impl_seedList (a b c : Int) : Ev (fun k => impl_SeedList.f k a b c) (seedsOf a b c) := by
  unfold impl_SeedList.f impl_isSeed.f impl_inRange.f seedsOf seedsOk
  have no : Ev (fun k => impl_SeedList.j0 k a b c true) (([] : List Int), false) := ev_ret (fun k => by rw [impl_SeedList.j0, if_pos rfl])
  by_cases h1 : 1 ≤ a <;> by_cases h2 : a ≤ 2147483646 <;> by_cases h3 : 0 ≤ b <;> by_cases h4 : b ≤ 80 <;> by_cases h5 : 1 ≤ c <;> by_cases h6 : c ≤ 1000000000 <;> simp [h1, h2, h3, h4, h5, h6, no]
  refine Ev.step (fun k => ?_) (impl_seeds c h5 b.toNat a 0 b [] (by omega) h2 (by omega) (by omega) (by omega) (by simp))
  rw [impl_SeedList.j0, if_neg (by decide)]

/-- A list is equal to itself. -/
theorem eqs_l (a : List Int) (ha : a.length ≤ 140737488355328) (d : Nat) : ∀ (i : Int), 0 ≤ i → (a.length : Int) - i = d → Ev (fun k => laws_eqInt64S.l0 k a a i) true := by
  induction d with
  | zero => intro i h0 hd; exact ev_ret (fun k => by rw [laws_eqInt64S.l0, if_neg (by omega)])
  | succ d ih =>
    intro i h0 hd
    refine Ev.step (fun k => ?_) (ih (i + 1) (by omega) (by omega))
    rw [laws_eqInt64S.l0, if_pos (by omega), if_pos h0, if_pos (by omega), if_pos rfl, wid (x := i + 1) (by omega) (by omega)]
theorem eqs (a : List Int) (ha : a.length ≤ 140737488355328) : Ev (fun k => laws_eqInt64S.f k a a) true := by
  unfold laws_eqInt64S.f
  simp only [if_true]
  exact eqs_l a ha a.length 0 (by omega) (by omega)

/-- A list whose numbers go up one by one from a on, as far as index i. -/
def Upto (a : Int) (n : Nat) (xs : List Int) (i : Nat) : Prop := xs.length = n ∧ ∀ j, j < i → xs.getD j 0 = a + (j : Int)
theorem upto_set {a : Int} {n i : Nat} {xs : List Int} (h : Upto a n xs i) (hi : i < n) : Upto a n (xs.set i (a + (i : Int))) (i + 1) := by
  refine ⟨by rw [List.length_set]; exact h.1, fun j hj => ?_⟩
  have hl := h.1
  rw [List.getD_eq_getElem?_getD, List.getElem?_set]
  by_cases e : i = j
  · subst e
    rw [if_pos rfl, if_pos (by omega)]
    rfl
  · rw [if_neg e, ← List.getD_eq_getElem?_getD]
    exact h.2 j (by omega)
theorem mark_l (a : Int) (n : Nat) (h1 : 0 ≤ a) (h2 : a ≤ 4611686018427387904) (hn : n ≤ 140737488355328) (d : Nat) : ∀ (i : Nat) (xs : List Int), Upto a n xs i → n - i = d → i ≤ n →
    ∃ ys, Ev (fun k => laws_markInt64S.l0 k xs (a + (i : Int)) (i : Int)) (a + (n : Int), ys) ∧ Upto a n ys n := by
  induction d with
  | zero =>
    intro i xs h hd hi
    have e : i = n := by omega
    subst e
    have hl := h.1
    exact ⟨xs, ev_ret (fun k => by rw [laws_markInt64S.l0, if_neg (by omega)]), h⟩
  | succ d ih =>
    intro i xs h hd hi
    have hl := h.1
    obtain ⟨ys, e, hy⟩ := ih (i + 1) _ (upto_set h (by omega)) (by omega) (by omega)
    refine ⟨ys, Ev.step (fun k => ?_) e, hy⟩
    rw [laws_markInt64S.l0, if_pos (by omega), if_pos (by omega), wid (x := a + (i : Int) + 1) (by omega) (by omega), wid (x := (i : Int) + 1) (by omega) (by omega), Int.toNat_natCast]
    rw [show a + ((i + 1 : Nat) : Int) = a + (i : Int) + 1 by omega, show ((i + 1 : Nat) : Int) = (i : Int) + 1 by omega]
theorem held_l (a : Int) (n : Nat) (ys : List Int) (h1 : 0 ≤ a) (h2 : a ≤ 4611686018427387904) (hn : n ≤ 140737488355328) (h : Upto a n ys n) (d : Nat) : ∀ (i : Nat), n - i = d → i ≤ n →
    Ev (fun k => laws_heldInt64S.l0 k ys (a + (i : Int)) (i : Int)) (a + (n : Int)) := by
  have hl := h.1
  induction d with
  | zero =>
    intro i hd hi
    have e : i = n := by omega
    subst e
    exact ev_ret (fun k => by rw [laws_heldInt64S.l0, if_neg (by omega)])
  | succ d ih =>
    intro i hd hi
    refine Ev.step (fun k => ?_) (ih (i + 1) (by omega) (by omega))
    have hr : rd ys (i : Int) = a + (i : Int) := by unfold rd; rw [Int.toNat_natCast]; exact h.2 i (by omega)
    rw [laws_heldInt64S.l0, if_pos (by omega), if_pos (by omega), if_pos hr, wid (x := a + (i : Int) + 1) (by omega) (by omega), wid (x := (i : Int) + 1) (by omega) (by omega)]
    rw [show a + ((i + 1 : Nat) : Int) = a + (i : Int) + 1 by omega, show ((i + 1 : Nat) : Int) = (i : Int) + 1 by omega]
/-- What is marked is held. -/
theorem mark_held (a : Int) (xs : List Int) (h1 : 0 ≤ a) (h2 : a ≤ 4611686018427387904) (hn : xs.length ≤ 140737488355328) :
    ∃ ys, Ev (fun k => laws_markInt64S.f k xs a) (a + (xs.length : Int), ys) ∧ Ev (fun k => laws_heldInt64S.f k ys a) (a + (xs.length : Int)) := by
  obtain ⟨ys, e, hy⟩ := mark_l a xs.length h1 h2 hn xs.length 0 xs ⟨rfl, fun j hj => by omega⟩ (by omega) (by omega)
  have e2 := held_l a xs.length ys h1 h2 hn hy xs.length 0 (by omega) (by omega)
  refine ⟨ys, ?_, ?_⟩
  · simpa [laws_markInt64S.f] using e
  · simpa [laws_heldInt64S.f] using e2

theorem spec_nxt {s : Int} (h0 : 0 ≤ s) (h1 : s ≤ 2147483646) : spec_l01Next.f s = some (nxt s) := by
  unfold spec_l01Next.f nxt
  rw [wid (by omega) (by omega), Int.tmod_eq_emod_of_nonneg (by omega)]
theorem spec_seeds (below : Int) (hb : 1 ≤ below) (n : Nat) : ∀ (s cnt : Int) (acc : List Int), 0 ≤ s → s ≤ 2147483646 → cnt = n → acc.length + n ≤ 100 →
    Ev (fun k => spec_SeedList.l0 k s cnt below acc) (acc ++ drawn below s n, true) := by
  induction n with
  | zero =>
    intro s cnt acc h0 h1 hd hl
    refine ev_ret (fun k => ?_)
    rw [spec_SeedList.l0, if_neg (by omega), drawn, List.append_nil]
  | succ n ih =>
    intro s cnt acc h0 h1 hd hl
    have hn := @nxt_bd s
    have e := ih (nxt s) (cnt - 1) (acc ++ [nxt s % below]) hn.1 hn.2 (by omega) (by simp; omega)
    rw [drawn, List.append_cons]
    refine Ev.step (fun k => ?_) e
    rw [spec_SeedList.l0, if_pos (by omega), spec_nxt h0 h1, Option.bind_some, if_neg (by omega), if_pos (by omega), wid (x := cnt - 1) (by omega) (by omega), Int.tmod_eq_emod_of_nonneg hn.1]
theorem spec_seedList (a b c : Int) : Ev (fun k => spec_SeedList.f k a b c) (seedsOf a b c) := by
  unfold spec_SeedList.f spec_l01Seed.f spec_l00In.f seedsOf seedsOk
  have no : Ev (fun k => spec_SeedList.j0 k a b c true) (([] : List Int), false) := ev_ret (fun k => by rw [spec_SeedList.j0, if_pos rfl])
  by_cases h1 : 1 ≤ a <;> by_cases h2 : a ≤ 2147483646 <;> by_cases h3 : 0 ≤ b <;> by_cases h4 : b ≤ 80 <;> by_cases h5 : 1 ≤ c <;> by_cases h6 : c ≤ 1000000000 <;> simp [h1, h2, h3, h4, h5, h6, no]
  refine Ev.step (fun k => ?_) (spec_seeds c h5 b.toNat a b [] (by omega) h2 (by omega) (by simp; omega))
  rw [spec_SeedList.j0, if_neg (by decide)]
theorem FnExactSeedList : laws_FnExactSeedList.Pure := by
  intro a b c _ _ _
  refine Ev.rounds (r := true) ?_
  have hl := seedsOf_len a b c
  obtain ⟨ys, hm, hh⟩ := mark_held 1 (seedsOf a b c).1 (by omega) (by omega) (by omega)
  unfold laws_FnExactSeedList.f
  refine Ev.bind (spec_seedList a b c) (Ev.bind (impl_seedList a b c) (Ev.bind (eqs _ (by omega)) ?_))
  simp only [bne_self_eq_false, if_true]
  refine Ev.step (fun k => by rw [laws_FnExactSeedList.j0, if_neg (by decide)]) ?_
  refine Ev.bind hm (Ev.bind hh ?_)
  simp only [if_neg (show ¬ (1 + ((seedsOf a b c).1.length : Int) < 0) by omega), if_true]
  refine Ev.bind (impl_seedList a b c) (Ev.bind (eqs _ (by omega)) ?_)
  simp only [bne_self_eq_false, if_true]
  refine Ev.step (fun k => by rw [laws_FnExactSeedList.j1, if_neg (by decide)]) ?_
  refine Ev.bind hh (ev_all fun k => ?_)
  rw [if_neg (by omega), if_pos rfl]

end Go.Proofs.Yteeigkopaglcnaa.Pure
