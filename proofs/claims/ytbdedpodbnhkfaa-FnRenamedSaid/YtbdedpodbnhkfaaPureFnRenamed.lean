/- Canonical uses have the same gaps, their addresses come in order, and they are their own canonical uses. Conditions: those of the row alone. -/
import Derived.Test.YtbdedpodbnhkfaaPFnRenamedx3
namespace Go.Proofs.Ytbdedpodbnhkfaa.Pure
open Go.RowKit Go.Proofs.Ytbdedpodbnhkfaa.PFnRenamed Go.Proofs.YtbdedpodbnhkfaaW.PrintWords Go.Proofs.YtbdedpodbnhkfaaW.PrintLast Go.Proofs.YtbdedpodbnhkfaaW.PrintMore
set_option linter.unusedVariables false
set_option linter.unusedSimpArgs false

theorem wid {x : Int} (h1 : -9223372036854775808 ≤ x) (h2 : x < 9223372036854775808) : wrap64 x = x := by unfold wrap64; omega
theorem i64_bd {x : Int} (h : (Lit.int .i64 x).wf = true) : -9223372036854775808 ≤ x ∧ x ≤ 9223372036854775807 := by
  simp only [Lit.wf, IntKind.min, IntKind.max, IntKind.signed, IntKind.bits, Bool.and_eq_true, decide_eq_true_eq, if_true] at h
  omega
/-- A loop's step, its answer known at once. -/
theorem ev_ret {α : Type} {g : Nat → Option α} {r : α} (h : ∀ k, g (k + 1) = some r) : Ev g r := Ev.step (f := fun _ => some r) h (Ev.now r)
theorem ev_all {α : Type} {g : Nat → Option α} {r : α} (h : ∀ k, g k = some r) : Ev g r := ⟨0, fun k _ => h k⟩

theorem getD_set (xs : List Int) (i j : Nat) (v : Int) (hi : i < xs.length) : (xs.set i v).getD j 0 = if i = j then v else xs.getD j 0 := by
  rw [List.getD_eq_getElem?_getD, List.getElem?_set]
  by_cases e : i = j
  · subst e; rw [if_pos rfl, if_pos hi, if_pos rfl]; rfl
  · rw [if_neg e, if_neg e, List.getD_eq_getElem?_getD]
theorem ext_getD {xs ys : List Int} (h : xs.length = ys.length) (he : ∀ j, j < xs.length → xs.getD j 0 = ys.getD j 0) : xs = ys := by
  apply List.ext_getElem h
  intro j h1 h2
  have := he j h1
  rwa [List.getD_eq_getElem?_getD, List.getD_eq_getElem?_getD, List.getElem?_eq_getElem h1, List.getElem?_eq_getElem h2] at this
theorem rd_nat (xs : List Int) (i : Nat) : rd xs (i : Int) = xs.getD i 0 := by unfold rd; rw [Int.toNat_natCast]
theorem rd_mem (xs : List Int) (i : Nat) (h : i < xs.length) : rd xs (i : Int) ∈ xs := by
  rw [rd_nat, List.getD_eq_getElem?_getD, List.getElem?_eq_getElem h]
  exact List.getElem_mem _
theorem take_snoc (xs : List Int) (i : Nat) (h : i < xs.length) : xs.take (i + 1) = xs.take i ++ [rd xs (i : Int)] := by
  rw [List.take_succ_eq_append_getElem h, rd_nat, List.getD_eq_getElem?_getD, List.getElem?_eq_getElem h]
  rfl
theorem drop_cons (xs : List Int) (i : Nat) (h : i < xs.length) : xs.drop i = rd xs (i : Int) :: xs.drop (i + 1) := by
  rw [List.drop_eq_getElem_cons h, rd_nat, List.getD_eq_getElem?_getD, List.getElem?_eq_getElem h]
  rfl

theorem u8_bd {x : Int} (h : (Lit.int .u8 x).wf = true) : 0 ≤ x ∧ x ≤ 255 := by
  simp [Lit.wf, IntKind.min, IntKind.max, IntKind.signed, IntKind.bits] at h
  exact h

/-! the source that draws -/
theorem and255 (a : Int) : 0 ≤ Go.bits .and .u64 a 255 ∧ Go.bits .and .u64 a 255 ≤ 255 := by
  have h : ((BitVec.ofInt 64 a) &&& (BitVec.ofInt 64 255)).toNat ≤ 255 := by
    rw [BitVec.toNat_and]
    exact Nat.and_le_right
  have e : Go.bits .and .u64 a 255 = IntKind.u64.wrap ((((BitVec.ofInt 64 a) &&& (BitVec.ofInt 64 255)).toNat : Nat) : Int) := rfl
  rw [e]
  generalize ((BitVec.ofInt 64 a) &&& (BitVec.ofInt 64 255)).toNat = n at h
  simp only [IntKind.wrap, IntKind.bits, IntKind.signed]
  simp
  omega
theorem next_ok (l : List Int) (u : ∀ x ∈ l, (Lit.int .u8 x).wf = true) (at_ sd : Int) (h0 : 0 ≤ at_) (h1 : at_ ≤ 4611686018427387904) :
    ∃ t sd', spec_l00Src_next.f l at_ sd = some (t, at_ + 1, sd') ∧ 0 ≤ t ∧ t ≤ 255 := by
  have hw : wrap64 (at_ + 1) = at_ + 1 := wid (by omega) (by omega)
  unfold spec_l00Src_next.f
  rw [hw]
  by_cases h : at_ < (l.length : Int)
  · obtain ⟨i, rfl⟩ := Int.eq_ofNat_of_zero_le h0
    have hb := u8_bd (u _ (rd_mem l i (by omega)))
    rw [if_pos h, if_pos h0, if_pos (by omega), wid (x := rd l (i : Int)) (by omega) (by omega)]
    exact ⟨_, _, rfl, hb⟩
  · rw [if_neg h, if_neg (by omega)]
    refine ⟨_, _, rfl, ?_⟩
    have := and255 ((IntKind.u64.wrap (IntKind.u64.wrap (IntKind.u64.wrap (sd * 6364136223846793005)) + 1442695040888963407)) / 1099511627776)
    rw [wid (by omega) (by omega)]
    exact this
theorem pick_ok (l : List Int) (u : ∀ x ∈ l, (Lit.int .u8 x).wf = true) (at_ sd n : Int) (h0 : 0 ≤ at_) (h1 : at_ ≤ 2305843009213693952) (hn : 1 ≤ n) (hn2 : n ≤ 65536) :
    ∃ t at' sd', spec_l00Src_pick.f l at_ sd n = some (t, at', sd') ∧ 0 ≤ t ∧ t < n ∧ at_ ≤ at' ∧ at' ≤ at_ + 2 := by
  unfold spec_l00Src_pick.f
  by_cases h : n ≤ 1
  · rw [if_pos h]
    exact ⟨0, at_, sd, rfl, by omega, by omega, by omega, by omega⟩
  · rw [if_neg h]
    obtain ⟨t, sd1, e1, a1, b1⟩ := next_ok l u at_ sd h0 (by omega)
    rw [e1, Option.bind_some]
    by_cases g : n > 200
    · rw [if_pos g]
      obtain ⟨t2, sd2, e2, a2, b2⟩ := next_ok l u (at_ + 1) sd1 (by omega) (by omega)
      show ∃ t at' sd', (spec_l00Src_next.f l (at_ + 1) sd1).bind _ = some (t, at', sd') ∧ _
      rw [e2, Option.bind_some, if_neg (by omega)]
      have w1 : wrap64 (t * 256) = t * 256 := wid (by omega) (by omega)
      have w2 : wrap64 (t * 256 + t2) = t * 256 + t2 := wid (by omega) (by omega)
      refine ⟨_, _, _, rfl, ?_, ?_, (show at_ ≤ at_ + 1 + 1 by omega), (show at_ + 1 + 1 ≤ at_ + 2 by omega)⟩
      · show 0 ≤ Int.tmod (wrap64 (wrap64 (t * 256) + t2)) n
        rw [w1, w2, Int.tmod_eq_emod_of_nonneg (by omega)]; exact Int.emod_nonneg _ (by omega)
      · show Int.tmod (wrap64 (wrap64 (t * 256) + t2)) n < n
        rw [w1, w2, Int.tmod_eq_emod_of_nonneg (by omega)]; exact Int.emod_lt_of_pos _ (by omega)
    · rw [if_neg g, if_neg (by omega)]
      refine ⟨_, _, _, rfl, ?_, ?_, (show at_ ≤ at_ + 1 by omega), (show at_ + 1 ≤ at_ + 2 by omega)⟩
      · show 0 ≤ Int.tmod t n
        rw [Int.tmod_eq_emod_of_nonneg a1]; exact Int.emod_nonneg _ (by omega)
      · show Int.tmod t n < n
        rw [Int.tmod_eq_emod_of_nonneg a1]; exact Int.emod_lt_of_pos _ (by omega)
theorem among_ok (l : List Int) (u : ∀ x ∈ l, (Lit.int .u8 x).wf = true) (at_ sd : Int) (xs : List Int) (h0 : 0 ≤ at_) (h1 : at_ ≤ 2305843009213693952) (hn : 1 ≤ xs.length) (hn2 : xs.length ≤ 65536) :
    ∃ t at' sd', spec_l00Src_among.f l at_ sd xs = some (t, at', sd') ∧ t ∈ xs ∧ at_ ≤ at' ∧ at' ≤ at_ + 2 := by
  unfold spec_l00Src_among.f
  obtain ⟨t, at1, sd1, e, a, b, c, d⟩ := pick_ok l u at_ sd (xs.length : Int) h0 h1 (by omega) (by omega)
  rw [e, Option.bind_some]
  obtain ⟨i, rfl⟩ := Int.eq_ofNat_of_zero_le a
  rw [if_pos a, if_pos b]
  exact ⟨_, _, _, rfl, rd_mem xs i (by omega), c, d⟩

/-- What both ask of uses. -/
def usesOk (l : List Int) : Bool := decide (l.length ≤ 60) && l.all (fun x => decide (0 ≤ x) && decide (x ≤ 63))
theorem usesOk_len {l : List Int} (h : usesOk l = true) : l.length ≤ 60 := by
  unfold usesOk at h
  rw [Bool.and_eq_true] at h
  exact of_decide_eq_true h.1
theorem usesOk_mem {l : List Int} (h : usesOk l = true) {x : Int} (hx : x ∈ l) : 0 ≤ x ∧ x ≤ 63 := by
  unfold usesOk at h
  rw [Bool.and_eq_true, List.all_eq_true] at h
  have := h.2 x hx
  rw [Bool.and_eq_true] at this
  exact ⟨of_decide_eq_true this.1, of_decide_eq_true this.2⟩
theorem impl_uses (l : List Int) : impl_ValidUses.f l = some (usesOk l) := by
  unfold impl_ValidUses.f usesOk impl_allIn.f
  by_cases h : l.length ≤ 60
  · rw [if_pos (by omega), decide_eq_true h, Bool.true_and, Option.bind_some]
  · rw [if_neg (by omega), decide_eq_false h, Bool.false_and]

/-- The uses that are drawn are uses. -/
theorem few_l1 (l : List Int) (u : ∀ x ∈ l, (Lit.int .u8 x).wf = true) (base : List Int) (hb : 1 ≤ base.length) (hb2 : base.length ≤ 65536) (n : Nat) : ∀ (acc : List Int) (at_ sd : Int), 0 ≤ at_ → at_ + 2 * n ≤ 2000000 → acc.length + n ≤ 100000 →
    ∃ ys at' sd', Ev (fun k => spec_l02DrawFew.l1 k (n : Int) base acc l at_ sd) (acc ++ ys, at', sd') ∧ ys.length = n ∧ (∀ y ∈ ys, y ∈ base) ∧ at_ ≤ at' ∧ at' ≤ at_ + 2 * n := by
  induction n with
  | zero =>
    intro acc at_ sd h0 h1 ha
    exact ⟨[], at_, sd, ev_ret (fun k => by rw [spec_l02DrawFew.l1, if_neg (by omega), List.append_nil]), rfl, fun y hy => absurd hy (by simp), by omega, by omega⟩
  | succ n ih =>
    intro acc at_ sd h0 h1 ha
    obtain ⟨t, at1, sd1, e, hm, c, d⟩ := among_ok l u at_ sd base h0 (by omega) hb hb2
    obtain ⟨ys, at2, sd2, e2, hl, hy, c2, d2⟩ := ih (acc ++ [t]) at1 sd1 (by omega) (by omega) (by simp; omega)
    refine ⟨t :: ys, at2, sd2, ?_, by simp [hl], fun y h => ?_, by omega, by omega⟩
    · rw [List.append_cons]
      refine Ev.step (fun k => ?_) e2
      rw [spec_l02DrawFew.l1, if_pos (by omega), e, Option.bind_some, if_pos (by omega), wid (by omega) (by omega), show ((n + 1 : Nat) : Int) - 1 = (n : Int) by omega]
    · rcases List.mem_cons.1 h with rfl | h
      · exact hm
      · exact hy y h
theorem few_l0 (l : List Int) (u : ∀ x ∈ l, (Lit.int .u8 x).wf = true) (m : Nat) (kinds : Int) (hk : 1 ≤ kinds) (hk2 : kinds ≤ 1000) (d : Nat) : ∀ (i : Int) (acc : List Int) (at_ sd : Int), 0 ≤ i → kinds - i = d → (acc.length : Int) = i → (∀ x ∈ acc, 0 ≤ x ∧ x ≤ 63) → 0 ≤ at_ → at_ + 2 * d + 2 * m ≤ 2000000 → m ≤ 10000 →
    ∃ ys at' sd', Ev (fun k => spec_l02DrawFew.l0 k (m : Int) kinds acc i l at_ sd) (ys, at', sd') ∧ ys.length = m ∧ (∀ y ∈ ys, 0 ≤ y ∧ y ≤ 63) ∧ at_ ≤ at' ∧ at' ≤ at_ + 2 * d + 2 * m := by
  induction d with
  | zero =>
    intro i acc at_ sd hi hd hl hx h0 h1 hm
    obtain ⟨ys, at1, sd1, e, h2, h3, h4, h5⟩ := few_l1 l u acc (by omega) (by omega) m [] at_ sd h0 (by omega) (by simp; omega)
    refine ⟨ys, at1, sd1, ?_, h2, fun y hy => hx y (h3 y hy), h4, by omega⟩
    rw [List.nil_append] at e
    exact Ev.step (fun k => by rw [spec_l02DrawFew.l0, if_neg (by omega)]) e
  | succ d ih =>
    intro i acc at_ sd hi hd hl hx h0 h1 hm
    obtain ⟨t, at1, sd1, e, a, b, c, dd⟩ := pick_ok l u at_ sd 64 h0 (by omega) (by omega) (by omega)
    obtain ⟨ys, at2, sd2, e2, h2, h3, h4, h5⟩ := ih (i + 1) (acc ++ [t]) at1 sd1 (by omega) (by omega) (by simp; omega) (fun x h => by
      rcases List.mem_append.1 h with h | h
      · exact hx x h
      · rw [List.mem_singleton.1 h]; omega) (by omega) (by omega) hm
    refine ⟨ys, at2, sd2, ?_, h2, h3, by omega, by omega⟩
    refine Ev.step (fun k => ?_) e2
    rw [spec_l02DrawFew.l0, if_pos (by omega), e, Option.bind_some, if_pos (by omega), wid (by omega) (by omega)]
theorem usesOk_of {ys : List Int} (h : ys.length ≤ 60) (hy : ∀ y ∈ ys, 0 ≤ y ∧ y ≤ 63) : usesOk ys = true := by
  unfold usesOk
  rw [decide_eq_true h, Bool.true_and, List.all_eq_true]
  intro y hm
  have := hy y hm
  rw [decide_eq_true this.1, decide_eq_true this.2]
  rfl
theorem r8uses (l : List Int) (u : ∀ x ∈ l, (Lit.int .u8 x).wf = true) : ∃ ys, Ev (fun k => spec_R8Uses.f k l) ys ∧ ys.length ≤ 13 ∧ usesOk ys = true := by
  unfold spec_R8Uses.f spec_l00From.f
  simp only [Option.bind_some]
  obtain ⟨t, at1, sd1, e1, a1, b1, c1, d1⟩ := pick_ok l u 0 0 14 (by omega) (by omega) (by omega) (by omega)
  obtain ⟨t2, at2, sd2, e2, a2, b2, c2, d2⟩ := pick_ok l u at1 sd1 5 (by omega) (by omega) (by omega) (by omega)
  simp only [e1, e2, Option.bind_some]
  rw [wid (by omega) (by omega)]
  obtain ⟨m, rfl⟩ := Int.eq_ofNat_of_zero_le a1
  obtain ⟨ys, at3, sd3, e3, h2, h3, _⟩ := few_l0 l u m (1 + t2) (by omega) (by omega) (1 + t2).toNat 0 [] at2 sd2 (by omega) (by omega) rfl (fun x h => absurd h (by simp)) (by omega) (by omega) (by omega)
  refine ⟨ys, ?_, by omega, usesOk_of (by omega) h3⟩
  unfold spec_l02DrawFew.f
  exact Ev.bind (f := fun _ t => some t.1) e3 (Ev.now _)
def r8longOf (l0 l1 : List Int) : Bool := decide ((l0.length : Int) > 48 ∨ (l1.length : Int) > 48)
theorem r8Long_is (l0 l1 : List Int) : laws_r8Long.f l0 l1 = some (r8longOf l0 l1) := by
  unfold laws_r8Long.f r8longOf
  by_cases h : (l0.length : Int) > 48
  · rw [if_pos h, decide_eq_true (Or.inl h)]
  · rw [if_neg h]
    by_cases g : (l1.length : Int) > 48
    · rw [decide_eq_true g, decide_eq_true (Or.inr g)]
    · rw [decide_eq_false g, decide_eq_false (by omega)]

theorem r8same_l (a : List Int) (ha : a.length ≤ 140737488355328) (d : Nat) : ∀ (i : Int), 0 ≤ i → (a.length : Int) - i = d → Ev (fun k => laws_r8Same.l0 k a a i) true := by
  induction d with
  | zero => intro i h0 hd; exact ev_ret (fun k => by rw [laws_r8Same.l0, if_neg (by omega)])
  | succ d ih =>
    intro i h0 hd
    refine Ev.step (fun k => ?_) (ih (i + 1) (by omega) (by omega))
    rw [laws_r8Same.l0, if_pos (by omega), if_pos h0, if_pos (by omega), if_pos rfl, wid (x := i + 1) (by omega) (by omega)]
theorem r8same (a : List Int) (ha : a.length ≤ 140737488355328) : Ev (fun k => laws_r8Same.f k a a) true := by
  unfold laws_r8Same.f
  simp only [if_true]
  exact r8same_l a ha a.length 0 (by omega) (by omega)

/-- The index of the first x, counted from i; -1 if there is none. -/
def idxFrom : List Int → Int → Nat → Int
  | [], _, _ => -1
  | y :: r, x, i => if y = x then (i : Int) else idxFrom r x (i + 1)
theorem idxFrom_range (l : List Int) (x : Int) : ∀ i, idxFrom l x i = -1 ∨ ((i : Int) ≤ idxFrom l x i ∧ idxFrom l x i < (i : Int) + (l.length : Int)) := by
  induction l with
  | nil => intro i; exact .inl rfl
  | cons y r ih =>
    intro i
    rw [idxFrom]
    by_cases h : y = x
    · rw [if_pos h]; right; simp; omega
    · rw [if_neg h]
      rcases ih (i + 1) with e | e
      · exact .inl e
      · right; simp; omega
theorem idxFrom_shift (l : List Int) (x : Int) (m : Nat) : idxFrom l x m = if idxFrom l x 0 < 0 then -1 else (m : Int) + idxFrom l x 0 := by
  have gen : ∀ (l : List Int) (i : Nat), idxFrom l x (m + i) = if idxFrom l x i < 0 then -1 else (m : Int) + idxFrom l x i := by
    intro l
    induction l with
    | nil => intro i; rfl
    | cons y r ih =>
      intro i
      rw [idxFrom, idxFrom]
      by_cases h : y = x
      · rw [if_pos h, if_pos h, if_neg (by omega)]; omega
      · rw [if_neg h, if_neg h, Nat.add_assoc, ih (i + 1)]
  exact gen l 0
theorem index_l (l : List Int) (x : Int) (hl : l.length ≤ 140737488355328) (d : Nat) : ∀ (j : Nat), l.length - j = d → j ≤ l.length → Ev (fun k => slices_Index_int64_int64.l0 k l x (l.length : Int) (j : Int)) (idxFrom (l.drop j) x j) := by
  induction d with
  | zero =>
    intro j hd hj
    rw [List.drop_eq_nil_of_le (by omega), idxFrom]
    exact ev_ret (fun k => by rw [slices_Index_int64_int64.l0, if_neg (by omega)])
  | succ d ih =>
    intro j hd hj
    rw [drop_cons l j (by omega), idxFrom]
    by_cases h : rd l (j : Int) = x
    · rw [if_pos h]
      exact ev_ret (fun k => by rw [slices_Index_int64_int64.l0, if_pos (by omega), if_pos (by omega), if_pos (by omega), if_pos h.symm])
    · rw [if_neg h]
      refine Ev.step (fun k => ?_) (ih (j + 1) (by omega) (by omega))
      rw [slices_Index_int64_int64.l0, if_pos (by omega), if_pos (by omega), if_pos (by omega), if_neg (fun e => h e.symm), wid (x := (j : Int) + 1) (by omega) (by omega), show ((j + 1 : Nat) : Int) = (j : Int) + 1 by omega]
theorem index_is (l : List Int) (x : Int) (hl : l.length ≤ 140737488355328) : Ev (fun k => slices_Index_int64_int64.f k l x) (idxFrom l x 0) := index_l l x hl l.length 0 (by omega) (by omega)

/-- The uses with new names: the place among the addresses that were met, in order. -/
def canon : List Int → List Int → List Int
  | _, [] => []
  | seen, a :: r => if idxFrom seen a 0 < 0 then (seen.length : Int) :: canon (seen ++ [a]) r else idxFrom seen a 0 :: canon seen r
theorem canon_len (l : List Int) : ∀ seen, (canon seen l).length = l.length := by
  induction l with
  | nil => intro seen; rfl
  | cons a r ih =>
    intro seen
    rw [canon]
    split <;> simp [ih]
theorem idxFrom_snoc (l : List Int) (x : Int) : ∀ i, idxFrom l x i < 0 → idxFrom (l ++ [x]) x i = (i : Int) + (l.length : Int) := by
  induction l with
  | nil => intro i _; simp [idxFrom]
  | cons y r ih =>
    intro i h
    rw [idxFrom] at h
    by_cases e : y = x
    · rw [if_pos e] at h; omega
    · rw [if_neg e] at h
      rw [List.cons_append, idxFrom, if_neg e, ih (i + 1) h]
      simp
      omega
theorem impl_canon_l (l : List Int) (hl : l.length ≤ 60) (d : Nat) : ∀ (i : Nat) (acc seen : List Int), l.length - i = d → i ≤ l.length → acc.length ≤ i → seen.length ≤ i → Ev (fun k => impl_CanonicalUses.l0 k acc seen l (l.length : Int) (i : Int)) (acc ++ canon seen (l.drop i), true) := by
  induction d with
  | zero =>
    intro i acc seen hd hi ha hs
    rw [List.drop_eq_nil_of_le (by omega), canon, List.append_nil]
    exact ev_ret (fun k => by rw [impl_CanonicalUses.l0, if_neg (by omega)])
  | succ d ih =>
    intro i acc seen hd hi ha hs
    rw [drop_cons l i (by omega), canon]
    have e : Ev (fun k => slices_Contains_int64_int64.f k seen (rd l (i : Int))) (decide (idxFrom seen (rd l (i : Int)) 0 ≥ 0)) := by
      unfold slices_Contains_int64_int64.f
      exact Ev.bind (index_is _ _ (by omega)) (Ev.now _)
    refine Ev.step (fun k => by rw [impl_CanonicalUses.l0, if_pos (by omega), if_pos (by omega), if_pos (by omega), wid (x := (i : Int) + 1) (by omega) (by omega)]) (Ev.bind e ?_)
    by_cases h : idxFrom seen (rd l (i : Int)) 0 < 0
    · simp only [decide_eq_false (show ¬ (idxFrom seen (rd l (i : Int)) 0 ≥ 0) by omega), if_neg (show ¬ (false = true) by decide), if_pos h, if_pos (show seen.length < 17592186044416 by omega), Option.bind_some]
      have hx := ih (i + 1) (acc ++ [(seen.length : Int)]) (seen ++ [rd l (i : Int)]) (by omega) (by omega) (by simp; omega) (by simp; omega)
      rw [show ((i + 1 : Nat) : Int) = (i : Int) + 1 by omega, ← List.append_cons] at hx
      have e2 := index_is (seen ++ [rd l (i : Int)]) (rd l (i : Int)) (by simp; omega)
      rw [idxFrom_snoc seen _ 0 h] at e2
      refine Ev.bind e2 ?_
      simp only [if_pos (show acc.length < 17592186044416 by omega), show ((0 : Nat) : Int) + (seen.length : Int) = (seen.length : Int) by omega]
      exact hx
    · simp only [decide_eq_true (show (idxFrom seen (rd l (i : Int)) 0 ≥ 0) by omega), if_true, if_neg h]
      have hx := ih (i + 1) (acc ++ [idxFrom seen (rd l (i : Int)) 0]) seen (by omega) (by omega) (by simp; omega) (by omega)
      rw [show ((i + 1 : Nat) : Int) = (i : Int) + 1 by omega, ← List.append_cons] at hx
      refine Ev.bind (index_is _ _ (by omega)) ?_
      simp only [if_pos (show acc.length < 17592186044416 by omega)]
      exact hx
def canonAns (l : List Int) : List Int × Bool := if usesOk l = true then (canon [] l, true) else ([], false)
theorem impl_canon (l : List Int) : Ev (fun k => impl_CanonicalUses.f k l) (canonAns l) := by
  unfold impl_CanonicalUses.f canonAns
  simp only [impl_uses, Option.bind_some]
  by_cases h : usesOk l = true
  · simp only [if_pos h]
    have := impl_canon_l l (usesOk_len h) l.length 0 [] [] (by omega) (by omega) (by simp) (by simp)
    rw [List.drop_zero, List.nil_append] at this
    exact this
  · simp only [if_neg h]
    exact Ev.now _

/-- The index of the last x before place j, -1 if there is none. -/
def lastBefore (l : List Int) (x : Int) : Nat → Int
  | 0 => -1
  | j + 1 => if rd l (j : Int) = x then (j : Int) else lastBefore l x j
theorem lastBefore_range (l : List Int) (x : Int) : ∀ j : Nat, lastBefore l x j = -1 ∨ (0 ≤ lastBefore l x j ∧ lastBefore l x j < (j : Int)) := by
  intro j
  induction j with
  | zero => exact .inl rfl
  | succ j ih =>
    rw [lastBefore]
    by_cases h : rd l (j : Int) = x
    · rw [if_pos h]; right; omega
    · rw [if_neg h]; omega
theorem lastBefore_take (l : List Int) (x : Int) (m : Nat) : ∀ j : Nat, j ≤ m → lastBefore (l.take m) x j = lastBefore l x j := by
  intro j
  induction j with
  | zero => intro _; rfl
  | succ j ih =>
    intro hj
    have e : rd (l.take m) (j : Int) = rd l (j : Int) := by
      rw [rd_nat, rd_nat, List.getD_eq_getElem?_getD, List.getD_eq_getElem?_getD, List.getElem?_take, if_pos (by omega)]
    rw [lastBefore, lastBefore, e, ih (by omega)]
def gapOf (l : List Int) (i : Nat) : Int := if lastBefore l (rd l (i : Int)) i < 0 then 0 else (i : Int) - lastBefore l (rd l (i : Int)) i
theorem impl_last_l (l : List Int) (x : Int) (hl : l.length ≤ 1000) : ∀ (j : Nat), j ≤ l.length → Ev (fun k => impl_lastUse.l0 k l x ((j : Int) - 1)) (lastBefore l x j) := by
  intro j
  induction j with
  | zero =>
    intro hj
    exact ev_ret (fun k => by rw [impl_lastUse.l0, if_neg (by omega), lastBefore])
  | succ j ih =>
    intro hj
    rw [show ((j + 1 : Nat) : Int) - 1 = (j : Int) by omega, lastBefore]
    by_cases h : rd l (j : Int) = x
    · rw [if_pos h]
      exact ev_ret (fun k => by rw [impl_lastUse.l0, if_pos (by omega), if_pos (by omega), if_pos (by omega), if_pos h])
    · rw [if_neg h]
      refine Ev.step (fun k => ?_) (ih (by omega))
      rw [impl_lastUse.l0, if_pos (by omega), if_pos (by omega), if_pos (by omega), if_neg h, wid (by omega) (by omega)]
theorem impl_gap_l (l : List Int) (hl : l.length ≤ 60) (d : Nat) : ∀ (i : Nat) (acc : List Int), l.length - i = d → i ≤ l.length → acc.length ≤ i → Ev (fun k => impl_GapsOf.l0 k l acc l (l.length : Int) (i : Int)) (acc ++ (List.range' i d).map (gapOf l), true) := by
  induction d with
  | zero =>
    intro i acc hd hi ha
    rw [List.range'_zero, List.map_nil, List.append_nil]
    exact ev_ret (fun k => by rw [impl_GapsOf.l0, if_neg (by omega)])
  | succ d ih =>
    intro i acc hd hi ha
    rw [List.range'_succ, List.map_cons, List.append_cons]
    have e : Ev (fun k => impl_lastUse.f k (l.take i) (rd l (i : Int))) (lastBefore l (rd l (i : Int)) i) := by
      unfold impl_lastUse.f
      have hlt : (l.take i).length = i := by rw [List.length_take]; omega
      rw [hlt, wid (by omega) (by omega), ← lastBefore_take l _ i i (by omega)]
      exact impl_last_l _ _ (by omega) i (by omega)
    refine Ev.step (fun k => by rw [impl_GapsOf.l0, if_pos (by omega), if_pos (by omega), if_pos (by omega), if_pos (by omega), Int.toNat_natCast, wid (x := (i : Int) + 1) (by omega) (by omega)]) (Ev.bind e ?_)
    have hr := lastBefore_range l (rd l (i : Int)) i
    have hx := ih (i + 1) (acc ++ [gapOf l i]) (by omega) (by omega) (by simp; omega)
    rw [show ((i + 1 : Nat) : Int) = (i : Int) + 1 by omega] at hx
    by_cases h : lastBefore l (rd l (i : Int)) i < 0
    · simp only [if_neg (show ¬ (lastBefore l (rd l (i : Int)) i ≥ 0) by omega), if_pos (show acc.length < 17592186044416 by omega)]
      have hg : gapOf l i = 0 := by unfold gapOf; rw [if_pos h]
      rw [hg] at hx ⊢; exact hx
    · simp only [if_pos (show (lastBefore l (rd l (i : Int)) i ≥ 0) by omega), if_pos (show acc.length < 17592186044416 by omega)]
      have hg : gapOf l i = (i : Int) - lastBefore l (rd l (i : Int)) i := by unfold gapOf; rw [if_neg h]
      rw [hg] at hx ⊢; rw [wid (by omega) (by omega)]; exact hx
def gapsAns (l : List Int) : List Int × Bool := if usesOk l = true then ((List.range' 0 l.length).map (gapOf l), true) else ([], false)
theorem impl_gaps (l : List Int) : Ev (fun k => impl_GapsOf.f k l) (gapsAns l) := by
  unfold impl_GapsOf.f gapsAns
  simp only [impl_uses, Option.bind_some]
  by_cases h : usesOk l = true
  · simp only [if_pos h]
    exact impl_gap_l l (usesOk_len h) l.length 0 [] (by omega) (by omega) (by simp)
  · simp only [if_neg h]
    exact Ev.now _

theorem idxFrom_append (l : List Int) (x : Int) (t : List Int) : ∀ i, 0 ≤ idxFrom l x i → idxFrom (l ++ t) x i = idxFrom l x i := by
  induction l with
  | nil => intro i h; rw [idxFrom] at h; omega
  | cons y r ih =>
    intro i h
    rw [List.cons_append, idxFrom, idxFrom]
    rw [idxFrom] at h
    by_cases e : y = x
    · rw [if_pos e, if_pos e]
    · rw [if_neg e] at h
      rw [if_neg e, if_neg e, ih (i + 1) h]
theorem idxFrom_get (l : List Int) (x : Int) : ∀ i, 0 ≤ idxFrom l x i → l.getD (idxFrom l x i - (i : Int)).toNat 0 = x := by
  induction l with
  | nil => intro i h; rw [idxFrom] at h; omega
  | cons y r ih =>
    intro i h
    rw [idxFrom] at h ⊢
    by_cases e : y = x
    · rw [if_pos e]; simp [e]
    · rw [if_neg e] at h ⊢
      have hr := idxFrom_range r x (i + 1)
      have := ih (i + 1) h
      rw [show (idxFrom r x (i + 1) - (i : Int)).toNat = (idxFrom r x (i + 1) - ((i + 1 : Nat) : Int)).toNat + 1 by omega, List.getD_cons_succ]
      exact this
/-- New names are places in one list. -/
theorem canon_map (r : List Int) : ∀ seen, ∃ S t, S = seen ++ t ∧ canon seen r = r.map (fun a => idxFrom S a 0) ∧ (∀ a ∈ r, 0 ≤ idxFrom S a 0) ∧ S.length ≤ seen.length + r.length := by
  induction r with
  | nil => intro seen; exact ⟨seen, [], by simp, rfl, fun a h => absurd h (by simp), by simp⟩
  | cons a r ih =>
    intro seen
    by_cases h : idxFrom seen a 0 < 0
    · obtain ⟨S, t, hS, hc, hp, hl⟩ := ih (seen ++ [a])
      have ha : idxFrom S a 0 = (seen.length : Int) := by
        rw [hS, idxFrom_append _ _ _ _ (by rw [idxFrom_snoc seen a 0 h]; omega), idxFrom_snoc seen a 0 h]
        omega
      refine ⟨S, a :: t, by rw [hS]; simp, ?_, fun b hb => ?_, by simp at hl ⊢; omega⟩
      · rw [canon, if_pos h, hc, List.map_cons, ha]
      · rcases List.mem_cons.1 hb with rfl | hb
        · rw [ha]; omega
        · exact hp b hb
    · obtain ⟨S, t, hS, hc, hp, hl⟩ := ih seen
      have ha : idxFrom S a 0 = idxFrom seen a 0 := by rw [hS, idxFrom_append _ _ _ _ (by omega)]
      refine ⟨S, t, hS, ?_, fun b hb => ?_, by simp; omega⟩
      · rw [canon, if_neg h, hc, List.map_cons, ha]
      · rcases List.mem_cons.1 hb with rfl | hb
        · rw [ha]; omega
        · exact hp b hb
/-- The numbers below m, in order. -/
def below (m : Nat) : List Int := (List.range m).map (fun (i : Nat) => (i : Int))
theorem below_len (m : Nat) : (below m).length = m := by simp [below]
theorem below_succ (m : Nat) : below (m + 1) = below m ++ [(m : Int)] := by simp [below, List.range_succ]
theorem below_idx (m : Nat) (x : Int) : idxFrom (below m) x 0 = if 0 ≤ x ∧ x < (m : Int) then x else -1 := by
  induction m with
  | zero => rw [if_neg (by omega)]; rfl
  | succ m ih =>
    by_cases h : 0 ≤ x ∧ x < (m : Int)
    · rw [if_pos h] at ih
      rw [below_succ, idxFrom_append _ _ _ _ (by rw [ih]; omega), ih, if_pos (by omega)]
    · rw [if_neg h] at ih
      by_cases e : x = (m : Int)
      · subst e
        rw [below_succ, idxFrom_snoc _ _ _ (by rw [ih]; omega), below_len, if_pos (by omega)]
        omega
      · rw [if_neg (by omega), below_succ]
        have gen : ∀ (l : List Int) (i : Nat), idxFrom l x i < 0 → idxFrom (l ++ [(m : Int)]) x i = -1 := by
          intro l
          induction l with
          | nil => intro i _; rw [List.nil_append, idxFrom, if_neg (fun h => e h.symm), idxFrom]
          | cons y r ih2 =>
            intro i hi
            rw [idxFrom] at hi
            by_cases q : y = x
            · rw [if_pos q] at hi; omega
            · rw [if_neg q] at hi
              rw [List.cons_append, idxFrom, if_neg q, ih2 (i + 1) hi]
        exact gen _ 0 (by rw [ih]; omega)
theorem canon_again (r : List Int) : ∀ seen, canon (below seen.length) (canon seen r) = canon seen r := by
  induction r with
  | nil => intro seen; rfl
  | cons a r ih =>
    intro seen
    by_cases h : idxFrom seen a 0 < 0
    · have e : canon seen (a :: r) = (seen.length : Int) :: canon (seen ++ [a]) r := by rw [canon, if_pos h]
      rw [e, canon, below_idx, if_pos (by rw [if_neg (by omega)]; omega), below_len, ← below_succ]
      have := ih (seen ++ [a])
      rw [List.length_append, List.length_singleton] at this
      rw [this]
    · have e : canon seen (a :: r) = idxFrom seen a 0 :: canon seen r := by rw [canon, if_neg h]
      have hr := idxFrom_range seen a 0
      have e2 : idxFrom (below seen.length) (idxFrom seen a 0) 0 = idxFrom seen a 0 := by rw [below_idx, if_pos (by omega)]
      rw [e, canon, if_neg (by rw [e2]; exact h), e2, ih]
theorem rd_map (u : List Int) (g : Int → Int) (j : Nat) (h : j < u.length) : rd (u.map g) (j : Int) = g (rd u (j : Int)) := by
  rw [rd_nat, rd_nat, List.getD_eq_getElem?_getD, List.getD_eq_getElem?_getD, List.getElem?_map, List.getElem?_eq_getElem h]
  rfl
theorem lastBefore_map (u : List Int) (g : Int → Int) (hg : ∀ a ∈ u, ∀ b ∈ u, g a = g b → a = b) (x : Int) (hx : x ∈ u) : ∀ j : Nat, j ≤ u.length → lastBefore (u.map g) (g x) j = lastBefore u x j := by
  intro j
  induction j with
  | zero => intro _; rfl
  | succ j ih =>
    intro hj
    rw [lastBefore, lastBefore, rd_map u g j (by omega), ih (by omega)]
    by_cases e : rd u (j : Int) = x
    · rw [if_pos e, if_pos (by rw [e])]
    · rw [if_neg e, if_neg (fun h => e (hg _ (rd_mem u j (by omega)) x hx h))]
theorem gaps_map (u : List Int) (g : Int → Int) (hg : ∀ a ∈ u, ∀ b ∈ u, g a = g b → a = b) : (List.range' 0 (u.map g).length).map (gapOf (u.map g)) = (List.range' 0 u.length).map (gapOf u) := by
  rw [List.length_map]
  apply List.map_congr_left
  intro i hi
  have hlt : i < u.length := by simpa using hi
  unfold gapOf
  rw [rd_map u g i hlt, lastBefore_map u g hg _ (rd_mem u i hlt) i (by omega)]
theorem order_l (c : List Int) (hc : c.length ≤ 60) (r : List Int) : ∀ (seen : List Int) (i : Nat), c.drop i = canon seen r → seen.length ≤ i → i ≤ c.length → Ev (fun k => laws_FnRenamed.l0 k c (seen.length : Int) (i : Int)) true := by
  induction r with
  | nil =>
    intro seen i hd hs hi
    rw [canon] at hd
    have : c.length ≤ i := by
      have := congrArg List.length hd
      simp at this
      omega
    exact ev_ret (fun k => by rw [laws_FnRenamed.l0, if_neg (by omega)])
  | cons a r ih =>
    intro seen i hd hs hi
    have hlt : i < c.length := by
      have := congrArg List.length hd
      rw [canon_len, List.length_drop, List.length_cons] at this
      omega
    rw [drop_cons c i hlt, canon] at hd
    by_cases h : idxFrom seen a 0 < 0
    · rw [if_pos h] at hd
      injection hd with h1 h2
      have hx := ih (seen ++ [a]) (i + 1) h2 (by simp; omega) (by omega)
      rw [List.length_append, List.length_singleton] at hx
      refine Ev.step (fun k => by rw [laws_FnRenamed.l0, if_pos (by omega), if_pos (by omega), h1, if_neg (by omega)]) ?_
      refine Ev.step (fun k => ?_) hx
      rw [laws_FnRenamed.j2, if_neg (by simp), if_pos (by omega), if_pos (by omega), if_pos h1, wid (x := (i : Int) + 1) (by omega) (by omega), wid (by omega) (by omega)]
      rfl
    · rw [if_neg h] at hd
      injection hd with h1 h2
      have hr := idxFrom_range seen a 0
      have hx := ih seen (i + 1) h2 (by omega) (by omega)
      refine Ev.step (fun k => by rw [laws_FnRenamed.l0, if_pos (by omega), if_pos (by omega), h1, if_neg (by omega)]) ?_
      refine Ev.step (fun k => ?_) hx
      rw [laws_FnRenamed.j2, if_neg (by simp; omega), if_pos (by omega), if_pos (by omega), if_neg (by omega), wid (x := (i : Int) + 1) (by omega) (by omega)]
      rfl
theorem FnRenamed : laws_FnRenamed.Pure := by
  intro l0 l1 _ _ u0 _ _ _
  refine Ev.rounds (r := true) ?_
  unfold laws_FnRenamed.f
  simp only [r8Long_is, Option.bind_some]
  by_cases hg : r8longOf l0 l1 = true
  · simp only [if_pos hg]; exact Ev.now _
  simp only [if_neg hg]
  obtain ⟨u, eu, hl, hu⟩ := r8uses l0 u0
  obtain ⟨S, t, hS, hc, hp, hSl⟩ := canon_map u []
  have hinj : ∀ a ∈ u, ∀ b ∈ u, idxFrom S a 0 = idxFrom S b 0 → a = b := by
    intro a ha b hb e
    have h1 := idxFrom_get S a 0 (hp a ha)
    have h2 := idxFrom_get S b 0 (hp b hb)
    rw [e] at h1
    exact h1.symm.trans h2
  have hok : usesOk (canon [] u) = true := by
    refine usesOk_of (by rw [canon_len]; omega) (fun y hy => ?_)
    rw [hc] at hy
    obtain ⟨a, ha, rfl⟩ := List.mem_map.1 hy
    have h1 := hp a ha
    have h2 := idxFrom_range S a 0
    simp at hSl
    omega
  have hgap := gaps_map u (fun a => idxFrom S a 0) hinj
  rw [← hc] at hgap
  have hag := canon_again u []
  have hlen := canon_len u []
  have e1 := impl_canon u
  have e2 := impl_canon (canon [] u)
  have e3 := impl_gaps u
  have e4 := impl_gaps (canon [] u)
  unfold canonAns at e1 e2
  unfold gapsAns at e3 e4
  rw [if_pos hu] at e1 e3
  rw [if_pos hok] at e2 e4
  rw [hgap] at e4
  rw [show canon [] (canon [] u) = canon [] u from hag] at e2
  refine Ev.bind eu (Ev.bind e1 (Ev.bind e2 (Ev.bind e3 (Ev.bind e4 ?_))))
  simp only [if_true, hlen]
  refine Ev.bind (r8same _ (by omega)) ?_
  simp only [if_true]
  refine Ev.bind (r8same _ (by simp; omega)) ?_
  refine Ev.step (fun k => by rw [laws_FnRenamed.j0, if_neg (by decide)]) ?_
  exact order_l (canon [] u) (by omega) u [] 0 (by rw [List.drop_zero]) (by simp) (by omega)

end Go.Proofs.Ytbdedpodbnhkfaa.Pure
