/- The program's SeedPolicy returns what the reference's returns, for all numbers of ways and all seeds, in new memory. Conditions: those of the row alone. -/
import Derived.Test.YtbdedpodbnhkfaaPFnExactSeedPolicyy
namespace Go.Proofs.Ytbdedpodbnhkfaa.Pure
open Go.RowKit Go.Proofs.Ytbdedpodbnhkfaa.PFnExactSeedPolicy Go.Proofs.YtbdedpodbnhkfaaW.PrintWords Go.Proofs.YtbdedpodbnhkfaaW.PrintLast Go.Proofs.YtbdedpodbnhkfaaW.PrintMore
set_option linter.unusedVariables false
set_option linter.unusedSimpArgs false

theorem wid {x : Int} (h1 : -9223372036854775808 ≤ x) (h2 : x < 9223372036854775808) : wrap64 x = x := by unfold wrap64; omega
theorem i64_bd {x : Int} (h : (Lit.int .i64 x).wf = true) : -9223372036854775808 ≤ x ∧ x ≤ 9223372036854775807 := by
  simp only [Lit.wf, IntKind.min, IntKind.max, IntKind.signed, IntKind.bits, Bool.and_eq_true, decide_eq_true_eq, if_true] at h
  omega
/-- A loop's step, its answer known at once. -/
theorem ev_ret {α : Type} {g : Nat → Option α} {r : α} (h : ∀ k, g (k + 1) = some r) : Ev g r := Ev.step (f := fun _ => some r) h (Ev.now r)
theorem ev_all {α : Type} {g : Nat → Option α} {r : α} (h : ∀ k, g k = some r) : Ev g r := ⟨0, fun k _ => h k⟩

/-- A list whose numbers go up one by one from a on, as far as index i. -/
def Upto (a : Int) (n : Nat) (xs : List Int) (i : Nat) : Prop := xs.length = n ∧ ∀ j, j < i → xs.getD j 0 = a + (j : Int)
theorem upto_set {a : Int} {n i : Nat} {xs : List Int} (h : Upto a n xs i) (hi : i < n) : Upto a n (xs.set i (a + (i : Int))) (i + 1) := by
  refine ⟨by rw [List.length_set]; exact h.1, fun j hj => ?_⟩
  have hl := h.1
  rw [List.getD_eq_getElem?_getD, List.getElem?_set]
  by_cases e : i = j
  · subst e
    rw [if_pos rfl, if_pos (by omega)]
    rfl
  · rw [if_neg e, ← List.getD_eq_getElem?_getD]
    exact h.2 j (by omega)
theorem mark_l (a : Int) (n : Nat) (h1 : 0 ≤ a) (h2 : a ≤ 4611686018427387904) (hn : n ≤ 140737488355328) (d : Nat) : ∀ (i : Nat) (xs : List Int), Upto a n xs i → n - i = d → i ≤ n →
    ∃ ys, Ev (fun k => laws_markInt64S.l0 k xs (a + (i : Int)) (i : Int)) (a + (n : Int), ys) ∧ Upto a n ys n := by
  induction d with
  | zero =>
    intro i xs h hd hi
    have e : i = n := by omega
    subst e
    have hl := h.1
    exact ⟨xs, ev_ret (fun k => by rw [laws_markInt64S.l0, if_neg (by omega)]), h⟩
  | succ d ih =>
    intro i xs h hd hi
    have hl := h.1
    obtain ⟨ys, e, hy⟩ := ih (i + 1) _ (upto_set h (by omega)) (by omega) (by omega)
    refine ⟨ys, Ev.step (fun k => ?_) e, hy⟩
    rw [laws_markInt64S.l0, if_pos (by omega), if_pos (by omega), wid (x := a + (i : Int) + 1) (by omega) (by omega), wid (x := (i : Int) + 1) (by omega) (by omega), Int.toNat_natCast]
    rw [show a + ((i + 1 : Nat) : Int) = a + (i : Int) + 1 by omega, show ((i + 1 : Nat) : Int) = (i : Int) + 1 by omega]
theorem mark_I (a : Int) (xs : List Int) (h1 : 0 ≤ a) (h2 : a ≤ 4611686018427387904) (hn : xs.length ≤ 140737488355328) :
    ∃ ys, Ev (fun k => laws_markInt64S.f k xs a) (a + (xs.length : Int), ys) ∧ Upto a xs.length ys xs.length := by
  obtain ⟨ys, e, hy⟩ := mark_l a xs.length h1 h2 hn xs.length 0 xs ⟨rfl, fun j hj => by omega⟩ (by omega) (by omega)
  exact ⟨ys, by simpa [laws_markInt64S.f] using e, hy⟩

theorem held_l (a : Int) (n : Nat) (ys : List Int) (h1 : 0 ≤ a) (h2 : a ≤ 4611686018427387904) (hn : n ≤ 140737488355328) (h : Upto a n ys n) (d : Nat) : ∀ (i : Nat), n - i = d → i ≤ n →
    Ev (fun k => laws_heldInt64S.l0 k ys (a + (i : Int)) (i : Int)) (a + (n : Int)) := by
  have hl := h.1
  induction d with
  | zero =>
    intro i hd hi
    have e : i = n := by omega
    subst e
    exact ev_ret (fun k => by rw [laws_heldInt64S.l0, if_neg (by omega)])
  | succ d ih =>
    intro i hd hi
    refine Ev.step (fun k => ?_) (ih (i + 1) (by omega) (by omega))
    have hr : rd ys (i : Int) = a + (i : Int) := by unfold rd; rw [Int.toNat_natCast]; exact h.2 i (by omega)
    rw [laws_heldInt64S.l0, if_pos (by omega), if_pos (by omega), if_pos hr, wid (x := a + (i : Int) + 1) (by omega) (by omega), wid (x := (i : Int) + 1) (by omega) (by omega)]
    rw [show a + ((i + 1 : Nat) : Int) = a + (i : Int) + 1 by omega, show ((i + 1 : Nat) : Int) = (i : Int) + 1 by omega]
/-- What is marked is held. -/
theorem mark_held (a : Int) (xs : List Int) (h1 : 0 ≤ a) (h2 : a ≤ 4611686018427387904) (hn : xs.length ≤ 140737488355328) :
    ∃ ys, Ev (fun k => laws_markInt64S.f k xs a) (a + (xs.length : Int), ys) ∧ Ev (fun k => laws_heldInt64S.f k ys a) (a + (xs.length : Int)) := by
  obtain ⟨ys, e, hy⟩ := mark_l a xs.length h1 h2 hn xs.length 0 xs ⟨rfl, fun j hj => by omega⟩ (by omega) (by omega)
  have e2 := held_l a xs.length ys h1 h2 hn hy xs.length 0 (by omega) (by omega)
  refine ⟨ys, ?_, ?_⟩
  · simpa [laws_markInt64S.f] using e
  · simpa [laws_heldInt64S.f] using e2

/-- A list is equal to itself. -/
theorem eqs_l (a : List Int) (ha : a.length ≤ 140737488355328) (d : Nat) : ∀ (i : Int), 0 ≤ i → (a.length : Int) - i = d → Ev (fun k => laws_eqInt64S.l0 k a a i) true := by
  induction d with
  | zero => intro i h0 hd; exact ev_ret (fun k => by rw [laws_eqInt64S.l0, if_neg (by omega)])
  | succ d ih =>
    intro i h0 hd
    refine Ev.step (fun k => ?_) (ih (i + 1) (by omega) (by omega))
    rw [laws_eqInt64S.l0, if_pos (by omega), if_pos h0, if_pos (by omega), if_pos rfl, wid (x := i + 1) (by omega) (by omega)]
theorem eqs (a : List Int) (ha : a.length ≤ 140737488355328) : Ev (fun k => laws_eqInt64S.f k a a) true := by
  unfold laws_eqInt64S.f
  simp only [if_true]
  exact eqs_l a ha a.length 0 (by omega) (by omega)

/-! rows of rows: equal to themselves; marked and held -/
theorem ev_and {α β : Type} {g : Nat → Option α} {f : Nat → Option β} {a : α} {b : β} (h : Ev g a) (k : Ev f b) : ∃ K, ∀ n, K ≤ n → g n = some a ∧ f n = some b := by
  obtain ⟨K, h⟩ := h
  obtain ⟨K2, k⟩ := k
  exact ⟨max K K2, fun n hn => ⟨h n (Nat.le_trans (Nat.le_max_left ..) hn), k n (Nat.le_trans (Nat.le_max_right ..) hn)⟩⟩
theorem rdL_app (A : List (List Int)) (x : List Int) (B : List (List Int)) : (A ++ x :: B).getD A.length [] = x := by
  rw [List.getD_eq_getElem?_getD, List.getElem?_append_right (Nat.le_refl _), Nat.sub_self]
  rfl
theorem setL_app (A : List (List Int)) (x y : List Int) (B : List (List Int)) : (A ++ x :: B).set A.length y = A ++ y :: B := by
  rw [List.set_append_right _ _ (Nat.le_refl _), Nat.sub_self]
  rfl
theorem eqsSS_l (X : List (List Int)) (hX : X.length ≤ 1000000000) (hr : ∀ x ∈ X, x.length ≤ 1000000000) : ∀ (B A : List (List Int)), X = A ++ B → Ev (fun k => laws_eqInt64SS.l0 k X X (A.length : Int)) true
  | [], A, e => by
    refine ev_ret (fun k => ?_)
    rw [laws_eqInt64SS.l0, if_neg (by rw [e]; simp)]
  | x :: B, A, e => by
    have hl : X.length = A.length + (B.length + 1) := by rw [e]; simp
    have hx : rd_L1 X (A.length : Int) = x := by unfold rd_L1; rw [Int.toNat_natCast, e]; exact rdL_app A x B
    have ih := eqsSS_l X hX hr B (A ++ [x]) (by rw [e]; simp)
    rw [List.length_append, List.length_singleton] at ih
    refine Ev.step (fun k => ?_) (Ev.bind (f := fun k t => if t = true then laws_eqInt64SS.l0 k X X ((A.length + 1 : Nat) : Int) else some false) (eqs x (by have := hr x (by rw [e]; simp); omega)) (by simpa using ih))
    rw [laws_eqInt64SS.l0, if_pos (by omega), if_pos (by omega), if_pos (by omega), hx, wid (x := (A.length : Int) + 1) (by omega) (by omega), show ((A.length + 1 : Nat) : Int) = (A.length : Int) + 1 by omega]
theorem eqsSS (X : List (List Int)) (hX : X.length ≤ 1000000000) (hr : ∀ x ∈ X, x.length ≤ 1000000000) : Ev (fun k => laws_eqInt64SS.f k X X) true := by
  unfold laws_eqInt64SS.f
  simp only [if_true]
  exact eqsSS_l X hX hr X [] rfl
theorem mark_heldSS_l : ∀ (B : List (List Int)) (A : List (List Int)) (a : Int), (∀ x ∈ B, x.length ≤ 1000000000) → A.length + B.length ≤ 1000000000 → 0 ≤ a → a + 1000000000 * (B.length : Int) ≤ 4000000000000000000 →
    ∃ (m : Int) (ys : List (List Int)), Ev (fun k => laws_markInt64SS.l0 k (A ++ B) a (A.length : Int)) (m, A ++ ys) ∧ Ev (fun k => laws_heldInt64SS.l0 k (A ++ ys) a (A.length : Int)) m ∧ a ≤ m ∧ m ≤ a + 1000000000 * (B.length : Int)
  | [], A, a, _, hl, h0, h1 => by
    refine ⟨a, [], ev_ret (fun k => ?_), ev_ret (fun k => ?_), Int.le_refl _, by simp⟩
    · rw [laws_markInt64SS.l0, if_neg (by simp)]
    · rw [laws_heldInt64SS.l0, if_neg (by simp)]
  | x :: B, A, a, hr, hl, h0, h1 => by
    rw [List.length_cons] at hl h1
    have hx := hr x (List.mem_cons_self ..)
    obtain ⟨zs, e1, e2⟩ := mark_held a x h0 (by omega) (by omega)
    obtain ⟨m, ys, e3, e4, h2, h3⟩ := mark_heldSS_l B (A ++ [zs]) (a + (x.length : Int)) (fun y hy => hr y (List.mem_cons_of_mem _ hy)) (by simp; omega) (by omega) (by omega)
    rw [List.length_append, List.length_singleton, List.append_assoc] at e3 e4
    refine ⟨m, zs :: ys, ?_, ?_, by omega, by rw [List.length_cons]; omega⟩
    · refine Ev.step (fun k => ?_) (Ev.bind (f := fun k t => laws_markInt64SS.l0 k (A ++ t.2 :: B) t.1 ((A.length + 1 : Nat) : Int)) e1 (by simpa using e3))
      rw [laws_markInt64SS.l0, if_pos (by simp; omega), if_pos (by omega), Int.toNat_natCast, rdL_app, wid (x := (A.length : Int) + 1) (by omega) (by omega), show ((A.length + 1 : Nat) : Int) = (A.length : Int) + 1 by omega]
      simp only [setL_app]
    · refine Ev.step (fun k => ?_) (Ev.bind (f := fun k t => if t < 0 then some (-1) else laws_heldInt64SS.l0 k (A ++ zs :: ys) t ((A.length + 1 : Nat) : Int)) e2 (by simp only [if_neg (show ¬ a + (x.length : Int) < 0 by omega)]; simpa using e4))
      rw [laws_heldInt64SS.l0, if_pos (by simp; omega), if_pos (by omega), wid (x := (A.length : Int) + 1) (by omega) (by omega), show ((A.length + 1 : Nat) : Int) = (A.length : Int) + 1 by omega]
      unfold rd_L1
      rw [Int.toNat_natCast, rdL_app]
theorem mark_heldSS (a : Int) (X : List (List Int)) (hX : X.length ≤ 1000000) (hr : ∀ x ∈ X, x.length ≤ 1000000) (h0 : 0 ≤ a) (h1 : a ≤ 1000000000) :
    ∃ (m : Int) (Y : List (List Int)), Ev (fun k => laws_markInt64SS.l0 k X a 0) (m, Y) ∧ Ev (fun k => laws_heldInt64SS.f k Y a) m ∧ a ≤ m ∧ m ≤ a + 1000000000 * (X.length : Int) := by
  obtain ⟨m, Y, e1, e2, h2, h3⟩ := mark_heldSS_l X [] a (fun x hx => by have := hr x hx; omega) (by simp; omega) h0 (by omega)
  exact ⟨m, Y, by simpa using e1, by simpa [laws_heldInt64SS.f] using e2, h2, h3⟩

/-- The seed after a seed. -/
def nxt (s : Int) : Int := (48271 * s) % 2147483647
theorem nxt_bd {s : Int} : 0 ≤ nxt s ∧ nxt s ≤ 2147483646 := by unfold nxt; omega
theorem impl_nxt {s : Int} (h0 : 0 ≤ s) (h1 : s ≤ 2147483646) : impl_nextSeed.f s = some (nxt s) := by
  unfold impl_nextSeed.f nxt
  rw [wid (by omega) (by omega), Int.tmod_eq_emod_of_nonneg (by omega)]

/-- The numbers from i on, n of them. -/
def asc : Int → Nat → List Int
  | _, 0 => []
  | i, n + 1 => i :: asc (i + 1) n
theorem asc_len (n : Nat) : ∀ i, (asc i n).length = n := by
  induction n with
  | zero => intro i; rfl
  | succ n ih => intro i; simp [asc, ih]
theorem asc_get (n : Nat) : ∀ (i : Int) (j : Nat), j < n → (asc i n).getD j 0 = i + (j : Int) := by
  induction n with
  | zero => intro i j h; omega
  | succ n ih =>
    intro i j h
    cases j with
    | zero => simp [asc]
    | succ j =>
      rw [asc, List.getD_cons_succ, ih (i + 1) j (by omega)]
      omega
/-- Two elements change places. -/
def swp (xs : List Int) (i k : Nat) : List Int := (xs.set i (rd xs (k : Int))).set k (rd xs (i : Int))
theorem swp_len (xs : List Int) (i k : Nat) : (swp xs i k).length = xs.length := by unfold swp; simp
def shuf : Nat → Int → List Int → List Int × Int
  | 0, s, xs => (xs, s)
  | i + 1, s, xs => shuf i (nxt s) (swp xs (i + 1) (nxt s % ((i : Int) + 2)).toNat)
theorem shuf_len (n : Nat) : ∀ s xs, (shuf n s xs).1.length = xs.length := by
  induction n with
  | zero => intro s xs; rfl
  | succ n ih => intro s xs; rw [shuf, ih, swp_len]
theorem shuf_seed (n : Nat) : ∀ s xs, 1 ≤ s → s ≤ 2147483646 → 0 ≤ (shuf n s xs).2 ∧ (shuf n s xs).2 ≤ 2147483646 := by
  induction n with
  | zero => intro s xs h1 h2; exact ⟨by rw [shuf]; omega, by rw [shuf]; omega⟩
  | succ n ih =>
    intro s xs h1 h2
    rw [shuf]
    have hn := @nxt_bd s
    by_cases h : 1 ≤ nxt s
    · exact ih _ _ h hn.2
    · have : nxt s = 0 := by omega
      unfold nxt at this
      omega
def orderOf (s : Int) (n : Nat) : List Int × Int := shuf (n - 1) s (asc 0 n)
theorem orderOf_len (s : Int) (n : Nat) : (orderOf s n).1.length = n := by unfold orderOf; rw [shuf_len, asc_len]
theorem impl_asc (n : Nat) : ∀ (i cnt : Int) (acc : List Int), 0 ≤ i → cnt ≤ 100 → cnt - i = n → acc.length ≤ i.toNat → Ev (fun k => impl_ascending.l0 k acc cnt i) (acc ++ asc i n) := by
  induction n with
  | zero =>
    intro i cnt acc hi hc hd hl
    refine ev_ret (fun k => ?_)
    rw [impl_ascending.l0, if_neg (by omega), asc, List.append_nil]
  | succ n ih =>
    intro i cnt acc hi hc hd hl
    have e := ih (i + 1) cnt (acc ++ [i]) (by omega) hc (by omega) (by simp; omega)
    rw [asc, List.append_cons]
    refine Ev.step (fun k => ?_) e
    rw [impl_ascending.l0, if_pos (by omega), if_pos (by omega), wid (x := i + 1) (by omega) (by omega)]
theorem impl_shuf (n : Nat) : ∀ (s : Int) (xs : List Int), 0 ≤ s → s ≤ 2147483646 → n < xs.length ∨ n = 0 → xs.length ≤ 100 → Ev (fun k => impl_seedOrder.l0 k s xs (n : Int)) (shuf n s xs) := by
  induction n with
  | zero =>
    intro s xs h0 h1 hl hc
    refine ev_ret (fun k => ?_)
    rw [impl_seedOrder.l0, if_neg (by omega), shuf]
  | succ n ih =>
    intro s xs h0 h1 hl hc
    have hn := @nxt_bd s
    have hp : 0 ≤ nxt s % ((n : Int) + 2) := Int.emod_nonneg _ (by omega)
    have hq : nxt s % ((n : Int) + 2) < (n : Int) + 2 := Int.emod_lt_of_pos _ (by omega)
    have e := ih (nxt s) (swp xs (n + 1) (nxt s % ((n : Int) + 2)).toNat) hn.1 hn.2 (by rw [swp_len]; omega) (by rw [swp_len]; omega)
    rw [shuf]
    refine Ev.step (fun k => ?_) e
    have w1 : wrap64 (((n + 1 : Nat) : Int) + 1) = (n : Int) + 2 := by rw [wid (by omega) (by omega)]; omega
    have w2 : wrap64 (((n + 1 : Nat) : Int) - 1) = (n : Int) := by rw [wid (by omega) (by omega)]; omega
    rw [impl_seedOrder.l0, if_pos (by omega), impl_nxt h0 h1, Option.bind_some, w1, w2, Int.tmod_eq_emod_of_nonneg hn.1, if_neg (by omega), if_pos hp, if_pos (by omega), if_pos (by omega), if_pos (by omega)]
    unfold swp
    rw [Int.toNat_natCast, Int.toNat_of_nonneg hp]
theorem impl_order (s : Int) (n : Nat) (h0 : 0 ≤ s) (h1 : s ≤ 2147483646) (hn : n ≤ 100) : Ev (fun k => impl_seedOrder.f k s (n : Int)) (orderOf s n) := by
  unfold impl_seedOrder.f impl_ascending.f
  refine Ev.bind (impl_asc n 0 n [] (by omega) (by omega) (by omega) (by simp)) ?_
  rw [List.nil_append]
  cases n with
  | zero =>
    refine ev_ret (fun k => ?_)
    rw [show wrap64 (((0 : Nat) : Int) - 1) = -1 from by rw [wid (by omega) (by omega)]; rfl, impl_seedOrder.l0, if_neg (by omega)]
    rfl
  | succ n =>
    rw [show wrap64 (((n + 1 : Nat) : Int) - 1) = (n : Int) from by rw [wid (by omega) (by omega)]; omega]
    exact impl_shuf n s _ h0 h1 (by rw [asc_len]; omega) (by rw [asc_len]; omega)

theorem spec_nxt {s : Int} (h0 : 0 ≤ s) (h1 : s ≤ 2147483646) : spec_l01Next.f s = some (nxt s) := by
  unfold spec_l01Next.f nxt
  rw [wid (by omega) (by omega), Int.tmod_eq_emod_of_nonneg (by omega)]
theorem spec_shuf (n : Nat) : ∀ (s : Int) (xs : List Int), 0 ≤ s → s ≤ 2147483646 → n < xs.length ∨ n = 0 → xs.length ≤ 100 → Ev (fun k => spec_l01Order.l1 k s xs (n : Int)) (shuf n s xs) := by
  induction n with
  | zero =>
    intro s xs h0 h1 hl hc
    refine ev_ret (fun k => ?_)
    rw [spec_l01Order.l1, if_neg (by omega), shuf]
  | succ n ih =>
    intro s xs h0 h1 hl hc
    have hn := @nxt_bd s
    have hp : 0 ≤ nxt s % ((n : Int) + 2) := Int.emod_nonneg _ (by omega)
    have hq : nxt s % ((n : Int) + 2) < (n : Int) + 2 := Int.emod_lt_of_pos _ (by omega)
    have e := ih (nxt s) (swp xs (n + 1) (nxt s % ((n : Int) + 2)).toNat) hn.1 hn.2 (by rw [swp_len]; omega) (by rw [swp_len]; omega)
    rw [shuf]
    refine Ev.step (fun k => ?_) e
    have w1 : wrap64 (((n + 1 : Nat) : Int) + 1) = (n : Int) + 2 := by rw [wid (by omega) (by omega)]; omega
    have w2 : wrap64 (((n + 1 : Nat) : Int) - 1) = (n : Int) := by rw [wid (by omega) (by omega)]; omega
    rw [spec_l01Order.l1, if_pos (by omega), spec_nxt h0 h1, Option.bind_some, w1, w2, Int.tmod_eq_emod_of_nonneg hn.1]
    rw [if_neg (by omega), if_pos (by omega), if_pos (by omega), if_pos hp, if_pos (by omega)]
    unfold swp
    rw [Int.toNat_natCast, Int.toNat_of_nonneg hp]
theorem spec_asc (s : Int) (n : Nat) : ∀ (i cnt : Int) (acc : List Int) (r : List Int × Int), 0 ≤ i → cnt ≤ 100 → cnt - i = n → acc.length ≤ i.toNat → Ev (fun k => spec_l01Order.l1 k s (acc ++ asc i n) (cnt - 1)) r → Ev (fun k => spec_l01Order.l0 k s cnt acc i) r := by
  induction n with
  | zero =>
    intro i cnt acc r hi hc hd hl h
    rw [asc, List.append_nil] at h
    refine Ev.step (fun k => ?_) h
    rw [spec_l01Order.l0, if_neg (by omega), wid (by omega) (by omega)]
  | succ n ih =>
    intro i cnt acc r hi hc hd hl h
    rw [asc, List.append_cons] at h
    refine Ev.step (fun k => ?_) (ih (i + 1) cnt (acc ++ [i]) r (by omega) hc (by omega) (by simp; omega) h)
    rw [spec_l01Order.l0, if_pos (by omega), if_pos (by omega), wid (x := i + 1) (by omega) (by omega)]
theorem spec_order (s : Int) (n : Nat) (h0 : 0 ≤ s) (h1 : s ≤ 2147483646) (hn : n ≤ 100) : Ev (fun k => spec_l01Order.f k s (n : Int)) (orderOf s n) := by
  unfold spec_l01Order.f
  refine spec_asc s n 0 n [] _ (by omega) (by omega) (by omega) (by simp) ?_
  rw [List.nil_append]
  cases n with
  | zero =>
    refine ev_ret (fun k => ?_)
    rw [spec_l01Order.l1, if_neg (by omega)]
    rfl
  | succ n =>
    rw [show ((n + 1 : Nat) : Int) - 1 = (n : Int) by omega]
    exact spec_shuf n s _ h0 h1 (by rw [asc_len]; omega) (by rw [asc_len]; omega)

theorem good_of (a b : Int) (h : ∃ H M r, Ev (fun k => spec_SeedPolicy.f k a b) (H, M, r) ∧ Ev (fun k => impl_SeedPolicy.f k a b) (H, M, r) ∧ H.length ≤ 1000 ∧ (∀ x ∈ H, x.length ≤ 1000) ∧ M.length ≤ 1000) : ∃ k, laws_FnExactSeedPolicy.f k a b = some true := by
  obtain ⟨H, M, r, e1, e2, h1, h2, h3⟩ := h
  have eqPol : Ev (fun k => laws_eqPolicy.f k H M H M) true := by
    unfold laws_eqPolicy.f
    refine Ev.bind (eqsSS H (by omega) (fun x hx => by have := h2 x hx; omega)) ?_
    simp only [if_true]
    refine Ev.bind (eqs M (by omega)) ?_
    simp only [if_true]
    exact Ev.now _
  obtain ⟨m1, H', e3, e4, h4, h5⟩ := mark_heldSS 1 H (by omega) (fun x hx => by have := h2 x hx; omega) (by omega) (by omega)
  obtain ⟨M', e5, e6⟩ := mark_held m1 M (by omega) (by omega) (by omega)
  have held : Ev (fun k => laws_heldPolicy.f k H' M' 1) (m1 + (M.length : Int)) := by
    unfold laws_heldPolicy.f
    refine Ev.bind e4 ?_
    simp only [if_neg (show ¬ m1 < 0 by omega)]
    refine Ev.bind e6 ?_
    simp only [if_neg (show ¬ m1 + (M.length : Int) < 0 by omega)]
    exact Ev.now _
  obtain ⟨K1, f1⟩ := ev_and e1 eqPol
  obtain ⟨K2, f2⟩ := ev_and e3 e5
  obtain ⟨K3, f3⟩ := ev_and held e2
  refine ⟨K1 + K2 + K3, ?_⟩
  unfold laws_FnExactSeedPolicy.f
  exact if_pos ⟨H, M, r, m1, _, H', M', (f1 _ (by omega)).1, (f3 _ (by omega)).2, (f1 _ (by omega)).2, (f2 _ (by omega)).1, (f2 _ (by omega)).2, by omega, (f3 _ (by omega)).1⟩
theorem shuf_seed0 (n : Nat) : ∀ s xs, 0 ≤ s → s ≤ 2147483646 → 0 ≤ (shuf n s xs).2 ∧ (shuf n s xs).2 ≤ 2147483646 := by
  induction n with
  | zero => intro s xs h1 h2; rw [shuf]; exact ⟨h1, h2⟩
  | succ n ih => intro s xs h1 h2; rw [shuf]; exact ih _ _ nxt_bd.1 nxt_bd.2
/-- The seeds one behind another. -/
def sds (n : Nat) (s : Int) : Nat → Int
  | 0 => s
  | i + 1 => (orderOf (sds n s i) n).2
theorem sds_bd (n : Nat) (s : Int) (h0 : 0 ≤ s) (h1 : s ≤ 2147483646) : ∀ i, 0 ≤ sds n s i ∧ sds n s i ≤ 2147483646
  | 0 => ⟨h0, h1⟩
  | i + 1 => by
    have := sds_bd n s h0 h1 i
    exact shuf_seed0 _ _ _ this.1 this.2
def rws (n : Nat) (s : Int) (i : Nat) : List Int := (orderOf (sds n s i) n).1
theorem all_orders (n : Nat) (s : Int) (hn : n ≤ 6) (h0 : 0 ≤ s) (h1 : s ≤ 2147483646) : ∀ m, ∃ K, ∀ k, K ≤ k → ∀ i, i < m → impl_seedOrder.f k (sds n s i) (n : Int) = some (rws n s i, sds n s (i + 1))
  | 0 => ⟨0, fun k _ i hi => absurd hi (Nat.not_lt_zero _)⟩
  | m + 1 => by
    obtain ⟨K, hK⟩ := all_orders n s hn h0 h1 m
    have hb := sds_bd n s h0 h1 m
    obtain ⟨K2, hK2⟩ := impl_order (sds n s m) n hb.1 hb.2 (by omega)
    refine ⟨K + K2, fun k hk i hi => ?_⟩
    by_cases e : i = m
    · subst e; exact hK2 k (by omega)
    · exact hK k (by omega) i (by omega)
theorem impl_seedP (n : Nat) (s : Int) (hn : 1 ≤ n ∧ n ≤ 6) (h0 : 1 ≤ s) (h1 : s ≤ 2147483646) : Ev (fun k => impl_SeedPolicy.f k (n : Int) s) ((List.range n).map (rws n s), rws n s n, true) := by
  obtain ⟨K, hK⟩ := all_orders n s hn.2 (by omega) h1 (n + 1)
  refine ⟨K, fun k hk => ?_⟩
  have hs : ∀ i, i ≤ n + 1 → impl_SeedPolicy.sd k n s i = sds n s i := by
    intro i
    induction i with
    | zero => intro _; rfl
    | succ i ih =>
      intro hi
      show ((impl_seedOrder.f k (impl_SeedPolicy.sd k n s i) n).getD ([], 0)).2 = _
      rw [ih (by omega), hK k hk i (by omega)]
      rfl
  have hr : ∀ i, i ≤ n → impl_SeedPolicy.row k n s i = rws n s i := by
    intro i hi
    unfold impl_SeedPolicy.row
    rw [hs i (by omega), hK k hk i (by omega)]
    rfl
  show impl_SeedPolicy.f k (n : Int) s = _
  unfold impl_SeedPolicy.f
  rw [if_pos (by omega), Int.toNat_natCast, if_pos]
  · rw [hr n (Nat.le_refl _)]
    congr 2
    apply List.map_congr_left
    intro i hi
    exact hr i (Nat.le_of_lt (List.mem_range.1 hi))
  · rw [List.all_eq_true]
    intro i hi
    have := List.mem_range.1 hi
    rw [hs i (by omega), hK k hk i (by omega)]
    rfl
theorem spec_seed_l (n : Nat) (s : Int) (hn : n ≤ 6) (h0 : 0 ≤ s) (h1 : s ≤ 2147483646) (d : Nat) : ∀ (i : Nat), i ≤ n → n - i = d → Ev (fun k => spec_l03Seed.l0 k (n : Int) (sds n s i) (i : Int) ((List.range i).map (rws n s))) ((List.range n).map (rws n s), rws n s n) := by
  induction d with
  | zero =>
    intro i hi hd
    have e : i = n := by omega
    subst e
    have hb := sds_bd i s h0 h1 i
    refine Ev.step (f := fun k => (spec_l01Order.f k (sds i s i) (i : Int)).bind fun bt => some ((List.range i).map (rws i s), bt.1)) (fun k => by rw [spec_l03Seed.l0, if_neg (by omega)]) ?_
    exact Ev.bind (spec_order _ _ hb.1 hb.2 (by omega)) (Ev.now _)
  | succ d ih =>
    intro i hi hd
    have hb := sds_bd n s h0 h1 i
    have hx := ih (i + 1) (by omega) (by omega)
    have hl : ((List.range i).map (rws n s)).length < 5864062014805 := by simp; omega
    have hc : (i : Int) < (n : Int) := by omega
    have hw : wrap64 ((i : Int) + 1) = ((i + 1 : Nat) : Int) := by rw [wid (by omega) (by omega)]; omega
    refine Ev.step (fun k => by rw [spec_l03Seed.l0, if_pos hc]) (Ev.bind (spec_order _ _ hb.1 hb.2 (by omega)) ?_)
    simp only [if_pos hl, hw]
    rw [List.range_succ, List.map_append] at hx
    exact hx
theorem FnExactSeedPolicy : laws_FnExactSeedPolicy.Pure := by
  intro a b _ _
  refine good_of a b ?_
  by_cases h : 1 ≤ b ∧ b ≤ 2147483646 ∧ 1 ≤ a ∧ a ≤ 6
  · obtain ⟨n, rfl⟩ := Int.eq_ofNat_of_zero_le (show 0 ≤ a by omega)
    refine ⟨_, _, _, ?_, impl_seedP n b (by omega) h.1 h.2.1, ?_, ?_, ?_⟩
    · unfold spec_SeedPolicy.f spec_l03Ways.f spec_l00In.f spec_l01Seed.f spec_l00In.f
      simp only [if_pos (show (n : Int) ≥ 1 by omega), if_pos (show b ≥ 1 by omega), decide_eq_true h.2.2.2, decide_eq_true h.2.1, Option.bind_some, if_true]
      refine Ev.bind (a := ((List.range n).map (rws n b), rws n b n)) ?_ (Ev.now _)
      unfold spec_l03Seed.f
      exact spec_seed_l n b (by omega) (by omega) h.2.1 n 0 (by omega) (by omega)
    · rw [List.length_map, List.length_range]; omega
    · intro x hx
      obtain ⟨i, hi, rfl⟩ := List.mem_map.1 hx
      show (orderOf _ n).1.length ≤ 1000
      rw [orderOf_len]; omega
    · show (orderOf _ n).1.length ≤ 1000
      rw [orderOf_len]; omega
  · refine ⟨[], [], false, ?_, ?_, by simp, by simp, by simp⟩
    · refine ev_all (fun k => ?_)
      unfold spec_SeedPolicy.f spec_l03Ways.f spec_l00In.f spec_l01Seed.f spec_l00In.f
      by_cases h1 : a ≥ 1
      · by_cases h2 : a ≤ 6
        · by_cases h3 : b ≥ 1
          · have h4 : ¬ b ≤ 2147483646 := fun q => h ⟨h3, q, h1, h2⟩
            simp [h1, h2, h3, h4]
          · simp [h1, h2, h3]
        · simp [h1, h2]
      · simp [h1]
    · refine ev_all (fun k => ?_)
      unfold impl_SeedPolicy.f
      exact if_neg h

end Go.Proofs.Ytbdedpodbnhkfaa.Pure
