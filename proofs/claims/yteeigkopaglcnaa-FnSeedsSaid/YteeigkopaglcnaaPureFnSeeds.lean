/- The numbers that follow from a seed are the remainders of the seeds after it, and an order that follows from it has each number once. Conditions: those of the row alone. -/
import Derived.Test.YteeigkopaglcnaaPFnSeedsx2
namespace Go.Proofs.Yteeigkopaglcnaa.Pure
open Go.RowKit Go.Proofs.Yteeigkopaglcnaa.PFnSeeds Go.Proofs.YteeigkopaglcnaaW.PrintWords Go.Proofs.YteeigkopaglcnaaW.PrintLast Go.Proofs.YteeigkopaglcnaaW.PrintMore
set_option linter.unusedVariables false
set_option linter.unusedSimpArgs false

theorem wid {x : Int} (h1 : -9223372036854775808 ≤ x) (h2 : x < 9223372036854775808) : wrap64 x = x := by unfold wrap64; omega
theorem i64_bd {x : Int} (h : (Lit.int .i64 x).wf = true) : -9223372036854775808 ≤ x ∧ x ≤ 9223372036854775807 := by
  simp only [Lit.wf, IntKind.min, IntKind.max, IntKind.signed, IntKind.bits, Bool.and_eq_true, decide_eq_true_eq, if_true] at h
  omega
/-- A loop's step, its answer known at once. -/
theorem ev_ret {α : Type} {g : Nat → Option α} {r : α} (h : ∀ k, g (k + 1) = some r) : Ev g r := Ev.step (f := fun _ => some r) h (Ev.now r)
theorem ev_all {α : Type} {g : Nat → Option α} {r : α} (h : ∀ k, g k = some r) : Ev g r := ⟨0, fun k _ => h k⟩

/-- The seed after a seed. -/
def nxt (s : Int) : Int := (48271 * s) % 2147483647
theorem nxt_bd {s : Int} : 0 ≤ nxt s ∧ nxt s ≤ 2147483646 := by unfold nxt; omega
theorem impl_nxt {s : Int} (h0 : 0 ≤ s) (h1 : s ≤ 2147483646) : impl_nextSeed.f s = some (nxt s) := by
  unfold impl_nextSeed.f nxt
  rw [wid (by omega) (by omega), Int.tmod_eq_emod_of_nonneg (by omega)]

/-- The numbers that follow. -/
def drawn (below : Int) : Int → Nat → List Int
  | _, 0 => []
  | s, n + 1 => (nxt s % below) :: drawn below (nxt s) n
theorem drawn_len (below : Int) (n : Nat) : ∀ s, (drawn below s n).length = n := by
  induction n with
  | zero => intro s; rfl
  | succ n ih => intro s; simp [drawn, ih]
theorem impl_seeds (below : Int) (hb : 1 ≤ below) (n : Nat) : ∀ (s i cnt : Int) (acc : List Int), 0 ≤ s → s ≤ 2147483646 → 0 ≤ i → cnt ≤ 100 → cnt - i = n → acc.length ≤ i.toNat →
    Ev (fun k => impl_SeedList.l0 k s below acc cnt i) (acc ++ drawn below s n, true) := by
  induction n with
  | zero =>
    intro s i cnt acc h0 h1 hi hc hd hl
    refine ev_ret (fun k => ?_)
    rw [impl_SeedList.l0, if_neg (by omega), drawn, List.append_nil]
  | succ n ih =>
    intro s i cnt acc h0 h1 hi hc hd hl
    have hn := @nxt_bd s
    have e := ih (nxt s) (i + 1) cnt (acc ++ [nxt s % below]) hn.1 hn.2 (by omega) hc (by omega) (by simp; omega)
    rw [drawn, List.append_cons]
    refine Ev.step (fun k => ?_) e
    rw [impl_SeedList.l0, if_pos (by omega), impl_nxt h0 h1, Option.bind_some, if_neg (by omega), if_pos (by omega), wid (x := i + 1) (by omega) (by omega), Int.tmod_eq_emod_of_nonneg hn.1]
def seedsOk (a b c : Int) : Bool := decide (1 ≤ a ∧ a ≤ 2147483646 ∧ 0 ≤ b ∧ b ≤ 80 ∧ 1 ≤ c ∧ c ≤ 1000000000)
def seedsOf (a b c : Int) : List Int × Bool := if seedsOk a b c then (drawn c a b.toNat, true) else ([], false)
theorem seedsOf_len (a b c : Int) : (seedsOf a b c).1.length ≤ 80 := by
  unfold seedsOf
  by_cases h : seedsOk a b c = true
  · rw [if_pos h, drawn_len]
    have := of_decide_eq_true h
    omega
  · rw [if_neg h]; simp
theorem impl_seedList (a b c : Int) : Ev (fun k => impl_SeedList.f k a b c) (seedsOf a b c) := by
  unfold impl_SeedList.f impl_isSeed.f impl_inRange.f seedsOf seedsOk
  have no : Ev (fun k => impl_SeedList.j0 k a b c true) (([] : List Int), false) := ev_ret (fun k => by rw [impl_SeedList.j0, if_pos rfl])
  by_cases h1 : 1 ≤ a <;> by_cases h2 : a ≤ 2147483646 <;> by_cases h3 : 0 ≤ b <;> by_cases h4 : b ≤ 80 <;> by_cases h5 : 1 ≤ c <;> by_cases h6 : c ≤ 1000000000 <;> simp [h1, h2, h3, h4, h5, h6, no]
  refine Ev.step (fun k => ?_) (impl_seeds c h5 b.toNat a 0 b [] (by omega) h2 (by omega) (by omega) (by omega) (by simp))
  rw [impl_SeedList.j0, if_neg (by decide)]

/-- The numbers from i on, n of them. -/
def asc : Int → Nat → List Int
  | _, 0 => []
  | i, n + 1 => i :: asc (i + 1) n
theorem asc_len (n : Nat) : ∀ i, (asc i n).length = n := by
  induction n with
  | zero => intro i; rfl
  | succ n ih => intro i; simp [asc, ih]
theorem asc_get (n : Nat) : ∀ (i : Int) (j : Nat), j < n → (asc i n).getD j 0 = i + (j : Int) := by
  induction n with
  | zero => intro i j h; omega
  | succ n ih =>
    intro i j h
    cases j with
    | zero => simp [asc]
    | succ j =>
      rw [asc, List.getD_cons_succ, ih (i + 1) j (by omega)]
      omega
/-- Two elements change places. -/
def swp (xs : List Int) (i k : Nat) : List Int := (xs.set i (rd xs (k : Int))).set k (rd xs (i : Int))
theorem swp_len (xs : List Int) (i k : Nat) : (swp xs i k).length = xs.length := by unfold swp; simp
def shuf : Nat → Int → List Int → List Int × Int
  | 0, s, xs => (xs, s)
  | i + 1, s, xs => shuf i (nxt s) (swp xs (i + 1) (nxt s % ((i : Int) + 2)).toNat)
theorem shuf_len (n : Nat) : ∀ s xs, (shuf n s xs).1.length = xs.length := by
  induction n with
  | zero => intro s xs; rfl
  | succ n ih => intro s xs; rw [shuf, ih, swp_len]
theorem shuf_seed (n : Nat) : ∀ s xs, 1 ≤ s → s ≤ 2147483646 → 0 ≤ (shuf n s xs).2 ∧ (shuf n s xs).2 ≤ 2147483646 := by
  induction n with
  | zero => intro s xs h1 h2; exact ⟨by rw [shuf]; omega, by rw [shuf]; omega⟩
  | succ n ih =>
    intro s xs h1 h2
    rw [shuf]
    have hn := @nxt_bd s
    by_cases h : 1 ≤ nxt s
    · exact ih _ _ h hn.2
    · have : nxt s = 0 := by omega
      unfold nxt at this
      omega
def orderOf (s : Int) (n : Nat) : List Int × Int := shuf (n - 1) s (asc 0 n)
theorem orderOf_len (s : Int) (n : Nat) : (orderOf s n).1.length = n := by unfold orderOf; rw [shuf_len, asc_len]
theorem impl_asc (n : Nat) : ∀ (i cnt : Int) (acc : List Int), 0 ≤ i → cnt ≤ 100 → cnt - i = n → acc.length ≤ i.toNat → Ev (fun k => impl_ascending.l0 k acc cnt i) (acc ++ asc i n) := by
  induction n with
  | zero =>
    intro i cnt acc hi hc hd hl
    refine ev_ret (fun k => ?_)
    rw [impl_ascending.l0, if_neg (by omega), asc, List.append_nil]
  | succ n ih =>
    intro i cnt acc hi hc hd hl
    have e := ih (i + 1) cnt (acc ++ [i]) (by omega) hc (by omega) (by simp; omega)
    rw [asc, List.append_cons]
    refine Ev.step (fun k => ?_) e
    rw [impl_ascending.l0, if_pos (by omega), if_pos (by omega), wid (x := i + 1) (by omega) (by omega)]
theorem impl_shuf (n : Nat) : ∀ (s : Int) (xs : List Int), 0 ≤ s → s ≤ 2147483646 → n < xs.length ∨ n = 0 → xs.length ≤ 100 → Ev (fun k => impl_seedOrder.l0 k s xs (n : Int)) (shuf n s xs) := by
  induction n with
  | zero =>
    intro s xs h0 h1 hl hc
    refine ev_ret (fun k => ?_)
    rw [impl_seedOrder.l0, if_neg (by omega), shuf]
  | succ n ih =>
    intro s xs h0 h1 hl hc
    have hn := @nxt_bd s
    have hp : 0 ≤ nxt s % ((n : Int) + 2) := Int.emod_nonneg _ (by omega)
    have hq : nxt s % ((n : Int) + 2) < (n : Int) + 2 := Int.emod_lt_of_pos _ (by omega)
    have e := ih (nxt s) (swp xs (n + 1) (nxt s % ((n : Int) + 2)).toNat) hn.1 hn.2 (by rw [swp_len]; omega) (by rw [swp_len]; omega)
    rw [shuf]
    refine Ev.step (fun k => ?_) e
    have w1 : wrap64 (((n + 1 : Nat) : Int) + 1) = (n : Int) + 2 := by rw [wid (by omega) (by omega)]; omega
    have w2 : wrap64 (((n + 1 : Nat) : Int) - 1) = (n : Int) := by rw [wid (by omega) (by omega)]; omega
    rw [impl_seedOrder.l0, if_pos (by omega), impl_nxt h0 h1, Option.bind_some, w1, w2, Int.tmod_eq_emod_of_nonneg hn.1, if_neg (by omega), if_pos hp, if_pos (by omega), if_pos (by omega), if_pos (by omega)]
    unfold swp
    rw [Int.toNat_natCast, Int.toNat_of_nonneg hp]
theorem impl_order (s : Int) (n : Nat) (h0 : 0 ≤ s) (h1 : s ≤ 2147483646) (hn : n ≤ 100) : Ev (fun k => impl_seedOrder.f k s (n : Int)) (orderOf s n) := by
  unfold impl_seedOrder.f impl_ascending.f
  refine Ev.bind (impl_asc n 0 n [] (by omega) (by omega) (by omega) (by simp)) ?_
  rw [List.nil_append]
  cases n with
  | zero =>
    refine ev_ret (fun k => ?_)
    rw [show wrap64 (((0 : Nat) : Int) - 1) = -1 from by rw [wid (by omega) (by omega)]; rfl, impl_seedOrder.l0, if_neg (by omega)]
    rfl
  | succ n =>
    rw [show wrap64 (((n + 1 : Nat) : Int) - 1) = (n : Int) from by rw [wid (by omega) (by omega)]; omega]
    exact impl_shuf n s _ h0 h1 (by rw [asc_len]; omega) (by rw [asc_len]; omega)
def orderAns (a b : Int) : List Int × Bool := if 1 ≤ a ∧ a ≤ 2147483646 ∧ 0 ≤ b ∧ b ≤ 80 then ((orderOf a b.toNat).1, true) else ([], false)
theorem orderAns_len (a b : Int) : (orderAns a b).1.length ≤ 80 := by
  unfold orderAns
  by_cases h : 1 ≤ a ∧ a ≤ 2147483646 ∧ 0 ≤ b ∧ b ≤ 80
  · rw [if_pos h, orderOf_len]; omega
  · rw [if_neg h]; simp
theorem impl_seedOrderF (a b : Int) : Ev (fun k => impl_SeedOrder.f k a b) (orderAns a b) := by
  unfold impl_SeedOrder.f impl_isSeed.f impl_inRange.f orderAns
  by_cases h1 : 1 ≤ a <;> by_cases h2 : a ≤ 2147483646 <;> by_cases h3 : 0 ≤ b <;> by_cases h4 : b ≤ 80 <;> simp [h1, h2, h3, h4, Ev.now]
  obtain ⟨n, rfl⟩ := Int.eq_ofNat_of_zero_le h3
  exact Ev.bind (impl_order a n (by omega) h2 (by omega)) (Ev.now _)

def longOf (l0 l1 : List Int) : Bool := decide ((l0.length : Int) > 1048576 ∨ (l1.length : Int) > 1048576)
theorem b10Long_is (l0 l1 : List Int) : laws_b10Long.f l0 l1 = some (longOf l0 l1) := by
  unfold laws_b10Long.f longOf
  by_cases h : (l0.length : Int) > 1048576
  · rw [if_pos h, decide_eq_true (Or.inl h)]
  · rw [if_neg h]
    by_cases g : (l1.length : Int) > 1048576
    · rw [decide_eq_true g, decide_eq_true (Or.inr g)]
    · rw [decide_eq_false g, decide_eq_false (by omega)]
theorem u8_bd {x : Int} (h : (Lit.int .u8 x).wf = true) : 0 ≤ x ∧ x ≤ 255 := by
  simp [Lit.wf, IntKind.min, IntKind.max, IntKind.signed, IntKind.bits] at h
  exact h
theorem rd_in (xs : List Int) (i : Int) (h0 : 0 ≤ i) (h1 : i < (xs.length : Int)) : rd xs i ∈ xs := by
  unfold rd
  rw [List.getD_eq_getElem?_getD, List.getElem?_eq_getElem (by omega)]
  exact List.getElem_mem _
/-- A number from 0 to n - 1. -/
theorem b10At_is (l : List Int) (u : ∀ x ∈ l, (Lit.int .u8 x).wf = true) (b : l.length * 1 ≤ 140737488351232) (i n : Int) (h0 : 0 ≤ i) (h1 : i ≤ 1000) (hn : 2 ≤ n) :
    ∃ t, laws_b10At.f l i n = some t ∧ 0 ≤ t ∧ t < n := by
  unfold laws_b10At.f
  rw [if_neg (by omega)]
  by_cases h : i < (l.length : Int)
  · have hb := u8_bd (u _ (rd_in l i h0 h))
    refine ⟨rd l i % n, ?_, Int.emod_nonneg _ (by omega), Int.emod_lt_of_pos _ (by omega)⟩
    rw [if_pos h, if_pos h0, if_neg (by omega), wid (by omega) (by omega), Int.tmod_eq_emod_of_nonneg hb.1]
  · refine ⟨(i * 37 + 11) % n, ?_, Int.emod_nonneg _ (by omega), Int.emod_lt_of_pos _ (by omega)⟩
    rw [if_neg h, if_neg (by omega), wid (x := i * 37) (by omega) (by omega), wid (by omega) (by omega), Int.tmod_eq_emod_of_nonneg (by omega)]

theorem b10Has_no (v : Int) (xs : List Int) (hx : xs.length ≤ 1000000) (h : ∀ j, j < xs.length → xs.getD j 0 ≠ v) (d : Nat) : ∀ (i : Nat), i ≤ xs.length → xs.length - i = d → Ev (fun k => laws_b10Has.l0 k xs v (i : Int)) false := by
  induction d with
  | zero => intro i hi hd; exact ev_ret (fun k => by rw [laws_b10Has.l0, if_neg (by omega)])
  | succ d ih =>
    intro i hi hd
    refine Ev.step (fun k => ?_) (ih (i + 1) (by omega) (by omega))
    have hr : rd xs (i : Int) ≠ v := by unfold rd; rw [Int.toNat_natCast]; exact h i (by omega)
    rw [laws_b10Has.l0, if_pos (by omega), if_pos (by omega), if_neg hr, wid (x := (i : Int) + 1) (by omega) (by omega), show ((i + 1 : Nat) : Int) = (i : Int) + 1 by omega]
/-- A list that has each number below n once passes. -/
theorem b10Order_is (n : Int) (xs : List Int) (hn : (xs.length : Int) = n) (hx : xs.length ≤ 1000000) (h : ∀ j, j < xs.length → 0 ≤ xs.getD j 0 ∧ xs.getD j 0 < n) (hne : ∀ i j, i < xs.length → j < xs.length → i ≠ j → xs.getD i 0 ≠ xs.getD j 0) :
    Ev (fun k => laws_b10Order.f k xs n) true := by
  have loop : ∀ (d i : Nat), i ≤ xs.length → xs.length - i = d → Ev (fun k => laws_b10Order.l0 k xs n (i : Int)) true := by
    intro d
    induction d with
    | zero => intro i hi hd; exact ev_ret (fun k => by rw [laws_b10Order.l0, if_neg (by omega)]; simp [hn])
    | succ d ih =>
      intro i hi hd
      have hr : rd xs (i : Int) = xs.getD i 0 := by unfold rd; rw [Int.toNat_natCast]
      have hb := h i (by omega)
      have e : Ev (fun k => laws_b10Has.f k (xs.take i) (xs.getD i 0)) false := by
        refine b10Has_no _ _ (by rw [List.length_take]; omega) (fun j hj => ?_) (xs.take i).length 0 (by omega) (by omega)
        rw [List.length_take] at hj
        rw [List.getD_eq_getElem?_getD, List.getElem?_take, if_pos (by omega), ← List.getD_eq_getElem?_getD]
        exact hne j i (by omega) (by omega) (by omega)
      have e2 : Ev (fun k => (laws_b10Has.f k (xs.take i) (xs.getD i 0)).bind fun t => if t = true then some false else laws_b10Order.l0 k xs n ((i : Int) + 1)) true := by
        refine Ev.bind e ?_
        have := ih (i + 1) (by omega) (by omega)
        rw [show ((i + 1 : Nat) : Int) = (i : Int) + 1 by omega] at this
        simpa using this
      refine Ev.step (fun k => ?_) e2
      rw [laws_b10Order.l0, if_pos (by omega), if_pos (by omega), hr, if_neg (by omega), if_neg (by omega), if_pos (by omega), Int.toNat_natCast, wid (x := (i : Int) + 1) (by omega) (by omega)]
  exact loop xs.length 0 (by omega) (by omega)

/-- Each number below n once. -/
def IsOrd (n : Nat) (xs : List Int) : Prop := xs.length = n ∧ (∀ j, j < n → 0 ≤ xs.getD j 0 ∧ xs.getD j 0 < (n : Int)) ∧ ∀ i j, i < n → j < n → i ≠ j → xs.getD i 0 ≠ xs.getD j 0
theorem getD_set (xs : List Int) (i j : Nat) (v : Int) (hi : i < xs.length) : (xs.set i v).getD j 0 = if i = j then v else xs.getD j 0 := by
  rw [List.getD_eq_getElem?_getD, List.getElem?_set]
  by_cases e : i = j
  · subst e; rw [if_pos rfl, if_pos hi, if_pos rfl]; rfl
  · rw [if_neg e, if_neg e, List.getD_eq_getElem?_getD]
theorem swp_get (xs : List Int) (i k j : Nat) (hi : i < xs.length) (hk : k < xs.length) : (swp xs i k).getD j 0 = if j = k then xs.getD i 0 else if j = i then xs.getD k 0 else xs.getD j 0 := by
  unfold swp rd
  rw [getD_set _ _ _ _ (by rw [List.length_set]; exact hk), getD_set _ _ _ _ hi, Int.toNat_natCast, Int.toNat_natCast]
  by_cases e : j = k
  · subst e; rw [if_pos rfl, if_pos rfl]
  · rw [if_neg (fun h => e h.symm), if_neg e]
    by_cases f : j = i
    · subst f; rw [if_pos rfl]
    · rw [if_neg (fun h => f h.symm), if_neg f]
theorem swp_ord {n : Nat} {xs : List Int} (h : IsOrd n xs) {i k : Nat} (hi : i < n) (hk : k < n) : IsOrd n (swp xs i k) := by
  obtain ⟨h1, h2, h3⟩ := h
  refine ⟨by rw [swp_len, h1], fun j hj => ?_, fun a b ha hb hab => ?_⟩
  · rw [swp_get xs i k j (by omega) (by omega)]
    split
    · exact h2 i hi
    · split
      · exact h2 k hk
      · exact h2 j hj
  · rw [swp_get xs i k a (by omega) (by omega), swp_get xs i k b (by omega) (by omega)]
    by_cases a1 : a = k
    · by_cases b1 : b = k
      · omega
      · by_cases b2 : b = i
        · rw [if_pos a1, if_neg b1, if_pos b2]; exact h3 i k hi hk (by omega)
        · rw [if_pos a1, if_neg b1, if_neg b2]; exact h3 i b hi hb (by omega)
    · by_cases a2 : a = i
      · by_cases b1 : b = k
        · rw [if_neg a1, if_pos a2, if_pos b1]; exact h3 k i hk hi (by omega)
        · rw [if_neg a1, if_pos a2, if_neg b1, if_neg (by omega)]; exact h3 k b hk hb (by omega)
      · by_cases b1 : b = k
        · rw [if_neg a1, if_neg a2, if_pos b1]; exact h3 a i ha hi (by omega)
        · by_cases b2 : b = i
          · rw [if_neg a1, if_neg a2, if_neg b1, if_pos b2]; exact h3 a k ha hk (by omega)
          · rw [if_neg a1, if_neg a2, if_neg b1, if_neg b2]; exact h3 a b ha hb hab
theorem shuf_ord {n : Nat} (m : Nat) : ∀ s xs, IsOrd n xs → m < n ∨ m = 0 → IsOrd n (shuf m s xs).1 := by
  induction m with
  | zero => intro s xs h _; exact h
  | succ m ih =>
    intro s xs h hm
    rw [shuf]
    have hp : 0 ≤ nxt s % ((m : Int) + 2) := Int.emod_nonneg _ (by omega)
    have hq : nxt s % ((m : Int) + 2) < (m : Int) + 2 := Int.emod_lt_of_pos _ (by omega)
    exact ih _ _ (swp_ord h (by omega) (by omega)) (by omega)
theorem order_ord (s : Int) (n : Nat) : IsOrd n (orderOf s n).1 := by
  unfold orderOf
  refine shuf_ord (n - 1) s _ ⟨asc_len n 0, fun j hj => ?_, fun i j hi hj hij => ?_⟩ (by omega)
  · rw [asc_get n 0 j hj]; omega
  · rw [asc_get n 0 i hi, asc_get n 0 j hj]; omega
/-- The loop over the numbers. -/
theorem seeds_l (below : Int) (hb : 1 ≤ below) (xs : List Int) (hx : xs.length ≤ 100) (n : Nat) : ∀ (i : Nat) (s : Int), 1 ≤ s → s ≤ 2147483646 → xs.drop i = drawn below s n → xs.length = i + n →
    Ev (fun k => laws_FnSeeds.l0 k below xs s (i : Int)) true := by
  induction n with
  | zero =>
    intro i s h1 h2 hd hl
    refine ev_ret (fun k => ?_)
    rw [laws_FnSeeds.l0, if_neg (by omega)]
    unfold impl_NextSeed.f impl_isSeed.f impl_inRange.f
    rw [if_pos h1, decide_eq_true h2, Option.bind_some, Option.bind_some, if_pos rfl, impl_nxt (by omega) h2, Option.bind_some, Option.bind_some]
  | succ n ih =>
    intro i s h1 h2 hd hl
    have hn := @nxt_bd s
    have hn1 : 1 ≤ nxt s := by
      unfold nxt at hn ⊢
      omega
    rw [drawn] at hd
    have hr : rd xs (i : Int) = nxt s % below := by
      have h := congrArg (fun l => l[0]?) hd
      simp only [List.getElem?_drop, List.getElem?_cons_zero, Nat.add_zero] at h
      unfold rd
      rw [Int.toNat_natCast, List.getD_eq_getElem?_getD, h]
      rfl
    have hd2 : xs.drop (i + 1) = drawn below (nxt s) n := by
      have h := congrArg (List.drop 1) hd
      rw [List.drop_drop] at h
      simpa using h
    refine Ev.step (fun k => ?_) (ih (i + 1) (nxt s) hn1 hn.2 hd2 (by omega))
    rw [laws_FnSeeds.l0, if_pos (by omega)]
    unfold impl_NextSeed.f impl_isSeed.f impl_inRange.f
    rw [if_pos h1, decide_eq_true h2, Option.bind_some, Option.bind_some, if_pos rfl, impl_nxt (by omega) h2, Option.bind_some, Option.bind_some]
    rw [if_pos rfl, if_neg (by omega), if_neg (by omega), if_pos (by omega), if_neg (by omega), Int.tmod_eq_emod_of_nonneg hn.1, if_pos hr, wid (x := (i : Int) + 1) (by omega) (by omega)]
    rw [show ((i + 1 : Nat) : Int) = (i : Int) + 1 by omega]
theorem FnSeeds : laws_FnSeeds.Pure := by
  intro l0 l1 _ b0 u0 _ b1 u1
  refine Ev.rounds (r := true) ?_
  unfold laws_FnSeeds.f
  rw [show laws_b10Long.f l0 l1 = some (longOf l0 l1) from b10Long_is l0 l1]
  simp only [Option.bind_some]
  by_cases hg : longOf l0 l1 = true
  · simp only [if_pos hg]; exact Ev.now _
  simp only [if_neg hg]
  obtain ⟨t0, e0, p0, q0⟩ := b10At_is l0 u0 b0 0 256 (by omega) (by omega) (by omega)
  obtain ⟨t1, e1, p1, q1⟩ := b10At_is l0 u0 b0 1 256 (by omega) (by omega) (by omega)
  obtain ⟨t2, e2, p2, q2⟩ := b10At_is l0 u0 b0 2 256 (by omega) (by omega) (by omega)
  obtain ⟨t3, e3, p3, q3⟩ := b10At_is l1 u1 b1 0 20 (by omega) (by omega) (by omega)
  obtain ⟨t4, e4, p4, q4⟩ := b10At_is l1 u1 b1 1 100 (by omega) (by omega) (by omega)
  simp only [e0, e1, e2, e3, e4, Option.bind_some]
  have w0 : wrap64 ((wrap64 ((wrap64 (1 + (wrap64 (65536 * t0)))) + (wrap64 (256 * t1)))) + t2) = 1 + 65536 * t0 + 256 * t1 + t2 := by
    rw [wid (x := 65536 * t0) (by omega) (by omega), wid (x := 256 * t1) (by omega) (by omega), wid (x := 1 + 65536 * t0) (by omega) (by omega), wid (x := 1 + 65536 * t0 + 256 * t1) (by omega) (by omega), wid (by omega) (by omega)]
  have w1 : wrap64 (1 + t4) = 1 + t4 := wid (by omega) (by omega)
  simp only [w0, w1]
  have hs1 : 1 ≤ 1 + 65536 * t0 + 256 * t1 + t2 := by omega
  have hs2 : 1 + 65536 * t0 + 256 * t1 + t2 ≤ 2147483646 := by omega
  generalize 1 + 65536 * t0 + 256 * t1 + t2 = s at hs1 hs2
  have hb1 : 1 ≤ 1 + t4 := by omega
  have hb2 : 1 + t4 ≤ 100 := by omega
  generalize 1 + t4 = below at hb1 hb2
  clear w0 w1 e0 e1 e2 e3 e4
  obtain ⟨n, rfl⟩ := Int.eq_ofNat_of_zero_le p3
  have es := impl_seedList s (n : Int) below
  have eo := impl_seedOrderF s (n : Int)
  unfold seedsOf seedsOk at es
  rw [if_pos (decide_eq_true (by omega)), Int.toNat_natCast] at es
  unfold orderAns at eo
  rw [if_pos (by omega), Int.toNat_natCast] at eo
  refine Ev.bind es (Ev.bind eo ?_)
  simp only [if_true, drawn_len]
  have ho := order_ord s n
  refine Ev.bind (b10Order_is (n : Int) (orderOf s n).1 (by rw [ho.1]) (by rw [ho.1]; omega) (fun j hj => ho.2.1 j (by have := ho.1; omega)) (fun i j hi hj hij => ho.2.2 i j (by have := ho.1; omega) (by have := ho.1; omega) hij)) ?_
  refine Ev.step (fun k => ?_) (seeds_l below hb1 (drawn below s n) (by rw [drawn_len]; omega) n 0 s hs1 hs2 (by rw [List.drop_zero]) (by rw [drawn_len]; omega))
  rw [laws_FnSeeds.j0, if_neg (by decide)]
  rfl

end Go.Proofs.Yteeigkopaglcnaa.Pure
