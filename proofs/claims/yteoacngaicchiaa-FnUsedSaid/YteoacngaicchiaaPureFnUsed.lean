/- The gap of a next use is how far it is behind, first uses have the gap 0 and are as many as addresses, and the counts of all addresses add up to the uses. Conditions: those of the row alone. -/
import Derived.Test.YteoacngaicchiaaPFnUsedx4
namespace Go.Proofs.Yteoacngaicchiaa.Pure
open Go.RowKit Go.Proofs.Yteoacngaicchiaa.PFnUsed Go.Proofs.YteoacngaicchiaaW.PrintWords Go.Proofs.YteoacngaicchiaaW.PrintLast Go.Proofs.YteoacngaicchiaaW.PrintMore
set_option linter.unusedVariables false
set_option linter.unusedSimpArgs false

theorem wid {x : Int} (h1 : -9223372036854775808 ≤ x) (h2 : x < 9223372036854775808) : wrap64 x = x := by unfold wrap64; omega
theorem i64_bd {x : Int} (h : (Lit.int .i64 x).wf = true) : -9223372036854775808 ≤ x ∧ x ≤ 9223372036854775807 := by
  simp only [Lit.wf, IntKind.min, IntKind.max, IntKind.signed, IntKind.bits, Bool.and_eq_true, decide_eq_true_eq, if_true] at h
  omega
/-- A loop's step, its answer known at once. -/
theorem ev_ret {α : Type} {g : Nat → Option α} {r : α} (h : ∀ k, g (k + 1) = some r) : Ev g r := Ev.step (f := fun _ => some r) h (Ev.now r)
theorem ev_all {α : Type} {g : Nat → Option α} {r : α} (h : ∀ k, g k = some r) : Ev g r := ⟨0, fun k _ => h k⟩

theorem getD_set (xs : List Int) (i j : Nat) (v : Int) (hi : i < xs.length) : (xs.set i v).getD j 0 = if i = j then v else xs.getD j 0 := by
  rw [List.getD_eq_getElem?_getD, List.getElem?_set]
  by_cases e : i = j
  · subst e; rw [if_pos rfl, if_pos hi, if_pos rfl]; rfl
  · rw [if_neg e, if_neg e, List.getD_eq_getElem?_getD]
theorem ext_getD {xs ys : List Int} (h : xs.length = ys.length) (he : ∀ j, j < xs.length → xs.getD j 0 = ys.getD j 0) : xs = ys := by
  apply List.ext_getElem h
  intro j h1 h2
  have := he j h1
  rwa [List.getD_eq_getElem?_getD, List.getD_eq_getElem?_getD, List.getElem?_eq_getElem h1, List.getElem?_eq_getElem h2] at this
theorem rd_nat (xs : List Int) (i : Nat) : rd xs (i : Int) = xs.getD i 0 := by unfold rd; rw [Int.toNat_natCast]
theorem rd_mem (xs : List Int) (i : Nat) (h : i < xs.length) : rd xs (i : Int) ∈ xs := by
  rw [rd_nat, List.getD_eq_getElem?_getD, List.getElem?_eq_getElem h]
  exact List.getElem_mem _
theorem take_snoc (xs : List Int) (i : Nat) (h : i < xs.length) : xs.take (i + 1) = xs.take i ++ [rd xs (i : Int)] := by
  rw [List.take_succ_eq_append_getElem h, rd_nat, List.getD_eq_getElem?_getD, List.getElem?_eq_getElem h]
  rfl
theorem drop_cons (xs : List Int) (i : Nat) (h : i < xs.length) : xs.drop i = rd xs (i : Int) :: xs.drop (i + 1) := by
  rw [List.drop_eq_getElem_cons h, rd_nat, List.getD_eq_getElem?_getD, List.getElem?_eq_getElem h]
  rfl

theorem u8_bd {x : Int} (h : (Lit.int .u8 x).wf = true) : 0 ≤ x ∧ x ≤ 255 := by
  simp [Lit.wf, IntKind.min, IntKind.max, IntKind.signed, IntKind.bits] at h
  exact h

/-! the source that draws -/
theorem and255 (a : Int) : 0 ≤ Go.bits .and .u64 a 255 ∧ Go.bits .and .u64 a 255 ≤ 255 := by
  have h : ((BitVec.ofInt 64 a) &&& (BitVec.ofInt 64 255)).toNat ≤ 255 := by
    rw [BitVec.toNat_and]
    exact Nat.and_le_right
  have e : Go.bits .and .u64 a 255 = IntKind.u64.wrap ((((BitVec.ofInt 64 a) &&& (BitVec.ofInt 64 255)).toNat : Nat) : Int) := rfl
  rw [e]
  generalize ((BitVec.ofInt 64 a) &&& (BitVec.ofInt 64 255)).toNat = n at h
  simp only [IntKind.wrap, IntKind.bits, IntKind.signed]
  simp
  omega
theorem next_ok (l : List Int) (u : ∀ x ∈ l, (Lit.int .u8 x).wf = true) (at_ sd : Int) (h0 : 0 ≤ at_) (h1 : at_ ≤ 4611686018427387904) :
    ∃ t sd', spec_l00Src_next.f l at_ sd = some (t, at_ + 1, sd') ∧ 0 ≤ t ∧ t ≤ 255 := by
  have hw : wrap64 (at_ + 1) = at_ + 1 := wid (by omega) (by omega)
  unfold spec_l00Src_next.f
  rw [hw]
  by_cases h : at_ < (l.length : Int)
  · obtain ⟨i, rfl⟩ := Int.eq_ofNat_of_zero_le h0
    have hb := u8_bd (u _ (rd_mem l i (by omega)))
    rw [if_pos h, if_pos h0, if_pos (by omega), wid (x := rd l (i : Int)) (by omega) (by omega)]
    exact ⟨_, _, rfl, hb⟩
  · rw [if_neg h, if_neg (by omega)]
    refine ⟨_, _, rfl, ?_⟩
    have := and255 ((IntKind.u64.wrap (IntKind.u64.wrap (IntKind.u64.wrap (sd * 6364136223846793005)) + 1442695040888963407)) / 1099511627776)
    rw [wid (by omega) (by omega)]
    exact this
theorem pick_ok (l : List Int) (u : ∀ x ∈ l, (Lit.int .u8 x).wf = true) (at_ sd n : Int) (h0 : 0 ≤ at_) (h1 : at_ ≤ 2305843009213693952) (hn : 1 ≤ n) (hn2 : n ≤ 65536) :
    ∃ t at' sd', spec_l00Src_pick.f l at_ sd n = some (t, at', sd') ∧ 0 ≤ t ∧ t < n ∧ at_ ≤ at' ∧ at' ≤ at_ + 2 := by
  unfold spec_l00Src_pick.f
  by_cases h : n ≤ 1
  · rw [if_pos h]
    exact ⟨0, at_, sd, rfl, by omega, by omega, by omega, by omega⟩
  · rw [if_neg h]
    obtain ⟨t, sd1, e1, a1, b1⟩ := next_ok l u at_ sd h0 (by omega)
    rw [e1, Option.bind_some]
    by_cases g : n > 200
    · rw [if_pos g]
      obtain ⟨t2, sd2, e2, a2, b2⟩ := next_ok l u (at_ + 1) sd1 (by omega) (by omega)
      show ∃ t at' sd', (spec_l00Src_next.f l (at_ + 1) sd1).bind _ = some (t, at', sd') ∧ _
      rw [e2, Option.bind_some, if_neg (by omega)]
      have w1 : wrap64 (t * 256) = t * 256 := wid (by omega) (by omega)
      have w2 : wrap64 (t * 256 + t2) = t * 256 + t2 := wid (by omega) (by omega)
      refine ⟨_, _, _, rfl, ?_, ?_, (show at_ ≤ at_ + 1 + 1 by omega), (show at_ + 1 + 1 ≤ at_ + 2 by omega)⟩
      · show 0 ≤ Int.tmod (wrap64 (wrap64 (t * 256) + t2)) n
        rw [w1, w2, Int.tmod_eq_emod_of_nonneg (by omega)]; exact Int.emod_nonneg _ (by omega)
      · show Int.tmod (wrap64 (wrap64 (t * 256) + t2)) n < n
        rw [w1, w2, Int.tmod_eq_emod_of_nonneg (by omega)]; exact Int.emod_lt_of_pos _ (by omega)
    · rw [if_neg g, if_neg (by omega)]
      refine ⟨_, _, _, rfl, ?_, ?_, (show at_ ≤ at_ + 1 by omega), (show at_ + 1 ≤ at_ + 2 by omega)⟩
      · show 0 ≤ Int.tmod t n
        rw [Int.tmod_eq_emod_of_nonneg a1]; exact Int.emod_nonneg _ (by omega)
      · show Int.tmod t n < n
        rw [Int.tmod_eq_emod_of_nonneg a1]; exact Int.emod_lt_of_pos _ (by omega)
theorem among_ok (l : List Int) (u : ∀ x ∈ l, (Lit.int .u8 x).wf = true) (at_ sd : Int) (xs : List Int) (h0 : 0 ≤ at_) (h1 : at_ ≤ 2305843009213693952) (hn : 1 ≤ xs.length) (hn2 : xs.length ≤ 65536) :
    ∃ t at' sd', spec_l00Src_among.f l at_ sd xs = some (t, at', sd') ∧ t ∈ xs ∧ at_ ≤ at' ∧ at' ≤ at_ + 2 := by
  unfold spec_l00Src_among.f
  obtain ⟨t, at1, sd1, e, a, b, c, d⟩ := pick_ok l u at_ sd (xs.length : Int) h0 h1 (by omega) (by omega)
  rw [e, Option.bind_some]
  obtain ⟨i, rfl⟩ := Int.eq_ofNat_of_zero_le a
  rw [if_pos a, if_pos b]
  exact ⟨_, _, _, rfl, rd_mem xs i (by omega), c, d⟩

/-- What both ask of uses. -/
def usesOk (l : List Int) : Bool := decide (l.length ≤ 60) && l.all (fun x => decide (0 ≤ x) && decide (x ≤ 63))
theorem usesOk_len {l : List Int} (h : usesOk l = true) : l.length ≤ 60 := by
  unfold usesOk at h
  rw [Bool.and_eq_true] at h
  exact of_decide_eq_true h.1
theorem usesOk_mem {l : List Int} (h : usesOk l = true) {x : Int} (hx : x ∈ l) : 0 ≤ x ∧ x ≤ 63 := by
  unfold usesOk at h
  rw [Bool.and_eq_true, List.all_eq_true] at h
  have := h.2 x hx
  rw [Bool.and_eq_true] at this
  exact ⟨of_decide_eq_true this.1, of_decide_eq_true this.2⟩
theorem impl_uses (l : List Int) : impl_ValidUses.f l = some (usesOk l) := by
  unfold impl_ValidUses.f usesOk impl_allIn.f
  by_cases h : l.length ≤ 60
  · rw [if_pos (by omega), decide_eq_true h, Bool.true_and, Option.bind_some]
  · rw [if_neg (by omega), decide_eq_false h, Bool.false_and]

/-- The uses that are drawn are uses. -/
theorem few_l1 (l : List Int) (u : ∀ x ∈ l, (Lit.int .u8 x).wf = true) (base : List Int) (hb : 1 ≤ base.length) (hb2 : base.length ≤ 65536) (n : Nat) : ∀ (acc : List Int) (at_ sd : Int), 0 ≤ at_ → at_ + 2 * n ≤ 2000000 → acc.length + n ≤ 100000 →
    ∃ ys at' sd', Ev (fun k => spec_l02DrawFew.l1 k (n : Int) base acc l at_ sd) (acc ++ ys, at', sd') ∧ ys.length = n ∧ (∀ y ∈ ys, y ∈ base) ∧ at_ ≤ at' ∧ at' ≤ at_ + 2 * n := by
  induction n with
  | zero =>
    intro acc at_ sd h0 h1 ha
    exact ⟨[], at_, sd, ev_ret (fun k => by rw [spec_l02DrawFew.l1, if_neg (by omega), List.append_nil]), rfl, fun y hy => absurd hy (by simp), by omega, by omega⟩
  | succ n ih =>
    intro acc at_ sd h0 h1 ha
    obtain ⟨t, at1, sd1, e, hm, c, d⟩ := among_ok l u at_ sd base h0 (by omega) hb hb2
    obtain ⟨ys, at2, sd2, e2, hl, hy, c2, d2⟩ := ih (acc ++ [t]) at1 sd1 (by omega) (by omega) (by simp; omega)
    refine ⟨t :: ys, at2, sd2, ?_, by simp [hl], fun y h => ?_, by omega, by omega⟩
    · rw [List.append_cons]
      refine Ev.step (fun k => ?_) e2
      rw [spec_l02DrawFew.l1, if_pos (by omega), e, Option.bind_some, if_pos (by omega), wid (by omega) (by omega), show ((n + 1 : Nat) : Int) - 1 = (n : Int) by omega]
    · rcases List.mem_cons.1 h with rfl | h
      · exact hm
      · exact hy y h
theorem few_l0 (l : List Int) (u : ∀ x ∈ l, (Lit.int .u8 x).wf = true) (m : Nat) (kinds : Int) (hk : 1 ≤ kinds) (hk2 : kinds ≤ 1000) (d : Nat) : ∀ (i : Int) (acc : List Int) (at_ sd : Int), 0 ≤ i → kinds - i = d → (acc.length : Int) = i → (∀ x ∈ acc, 0 ≤ x ∧ x ≤ 63) → 0 ≤ at_ → at_ + 2 * d + 2 * m ≤ 2000000 → m ≤ 10000 →
    ∃ ys at' sd', Ev (fun k => spec_l02DrawFew.l0 k (m : Int) kinds acc i l at_ sd) (ys, at', sd') ∧ ys.length = m ∧ (∀ y ∈ ys, 0 ≤ y ∧ y ≤ 63) ∧ at_ ≤ at' ∧ at' ≤ at_ + 2 * d + 2 * m := by
  induction d with
  | zero =>
    intro i acc at_ sd hi hd hl hx h0 h1 hm
    obtain ⟨ys, at1, sd1, e, h2, h3, h4, h5⟩ := few_l1 l u acc (by omega) (by omega) m [] at_ sd h0 (by omega) (by simp; omega)
    refine ⟨ys, at1, sd1, ?_, h2, fun y hy => hx y (h3 y hy), h4, by omega⟩
    rw [List.nil_append] at e
    exact Ev.step (fun k => by rw [spec_l02DrawFew.l0, if_neg (by omega)]) e
  | succ d ih =>
    intro i acc at_ sd hi hd hl hx h0 h1 hm
    obtain ⟨t, at1, sd1, e, a, b, c, dd⟩ := pick_ok l u at_ sd 64 h0 (by omega) (by omega) (by omega)
    obtain ⟨ys, at2, sd2, e2, h2, h3, h4, h5⟩ := ih (i + 1) (acc ++ [t]) at1 sd1 (by omega) (by omega) (by simp; omega) (fun x h => by
      rcases List.mem_append.1 h with h | h
      · exact hx x h
      · rw [List.mem_singleton.1 h]; omega) (by omega) (by omega) hm
    refine ⟨ys, at2, sd2, ?_, h2, h3, by omega, by omega⟩
    refine Ev.step (fun k => ?_) e2
    rw [spec_l02DrawFew.l0, if_pos (by omega), e, Option.bind_some, if_pos (by omega), wid (by omega) (by omega)]
theorem usesOk_of {ys : List Int} (h : ys.length ≤ 60) (hy : ∀ y ∈ ys, 0 ≤ y ∧ y ≤ 63) : usesOk ys = true := by
  unfold usesOk
  rw [decide_eq_true h, Bool.true_and, List.all_eq_true]
  intro y hm
  have := hy y hm
  rw [decide_eq_true this.1, decide_eq_true this.2]
  rfl
theorem r8uses (l : List Int) (u : ∀ x ∈ l, (Lit.int .u8 x).wf = true) : ∃ ys, Ev (fun k => spec_R8Uses.f k l) ys ∧ ys.length ≤ 13 ∧ usesOk ys = true := by
  unfold spec_R8Uses.f spec_l00From.f
  simp only [Option.bind_some]
  obtain ⟨t, at1, sd1, e1, a1, b1, c1, d1⟩ := pick_ok l u 0 0 14 (by omega) (by omega) (by omega) (by omega)
  obtain ⟨t2, at2, sd2, e2, a2, b2, c2, d2⟩ := pick_ok l u at1 sd1 5 (by omega) (by omega) (by omega) (by omega)
  simp only [e1, e2, Option.bind_some]
  rw [wid (by omega) (by omega)]
  obtain ⟨m, rfl⟩ := Int.eq_ofNat_of_zero_le a1
  obtain ⟨ys, at3, sd3, e3, h2, h3, _⟩ := few_l0 l u m (1 + t2) (by omega) (by omega) (1 + t2).toNat 0 [] at2 sd2 (by omega) (by omega) rfl (fun x h => absurd h (by simp)) (by omega) (by omega) (by omega)
  refine ⟨ys, ?_, by omega, usesOk_of (by omega) h3⟩
  unfold spec_l02DrawFew.f
  exact Ev.bind (f := fun _ t => some t.1) e3 (Ev.now _)
def r8longOf (l0 l1 : List Int) : Bool := decide ((l0.length : Int) > 48 ∨ (l1.length : Int) > 48)
theorem r8Long_is (l0 l1 : List Int) : laws_r8Long.f l0 l1 = some (r8longOf l0 l1) := by
  unfold laws_r8Long.f r8longOf
  by_cases h : (l0.length : Int) > 48
  · rw [if_pos h, decide_eq_true (Or.inl h)]
  · rw [if_neg h]
    by_cases g : (l1.length : Int) > 48
    · rw [decide_eq_true g, decide_eq_true (Or.inr g)]
    · rw [decide_eq_false g, decide_eq_false (by omega)]

def sm : List Int → Int
  | [] => 0
  | x :: r => x + sm r
theorem sm_bd : ∀ (l : List Int), (∀ x ∈ l, 0 ≤ x ∧ x ≤ 1000000) → 0 ≤ sm l ∧ sm l ≤ 1000000 * (l.length : Int)
  | [], _ => by simp [sm]
  | x :: r, h => by
    have h1 := h x (List.mem_cons_self ..)
    have h2 := sm_bd r (fun y hy => h y (List.mem_cons_of_mem _ hy))
    rw [sm, List.length_cons]
    omega
theorem r8sum_l (l : List Int) (hl : l.length ≤ 1000) (h : ∀ x ∈ l, 0 ≤ x ∧ x ≤ 1000000) (d : Nat) : ∀ (i : Nat) (acc : Int), l.length - i = d → i ≤ l.length → 0 ≤ acc → acc ≤ 1000000 * (i : Int) → Ev (fun k => laws_r8Sum.l0 k l acc (i : Int)) (acc + sm (l.drop i)) := by
  induction d with
  | zero =>
    intro i acc hd hi h0 h1
    rw [List.drop_eq_nil_of_le (by omega), sm, Int.add_zero]
    exact ev_ret (fun k => by rw [laws_r8Sum.l0, if_neg (by omega)])
  | succ d ih =>
    intro i acc hd hi h0 h1
    have hx := h _ (rd_mem l i (by omega))
    have e := ih (i + 1) (acc + rd l (i : Int)) (by omega) (by omega) (by omega) (by omega)
    rw [drop_cons l i (by omega), sm, ← Int.add_assoc]
    refine Ev.step (fun k => ?_) e
    rw [laws_r8Sum.l0, if_pos (by omega), if_pos (by omega), wid (x := acc + rd l (i : Int)) (by omega) (by omega), wid (x := (i : Int) + 1) (by omega) (by omega), show ((i + 1 : Nat) : Int) = (i : Int) + 1 by omega]
theorem r8sum (l : List Int) (hl : l.length ≤ 1000) (h : ∀ x ∈ l, 0 ≤ x ∧ x ≤ 1000000) : Ev (fun k => laws_r8Sum.f k l) (sm l) := by
  have := r8sum_l l hl h l.length 0 0 (by omega) (by omega) (by omega) (by omega)
  rw [List.drop_zero, Int.zero_add] at this
  exact this

/-- The index of the first x, counted from i; -1 if there is none. -/
def idxFrom : List Int → Int → Nat → Int
  | [], _, _ => -1
  | y :: r, x, i => if y = x then (i : Int) else idxFrom r x (i + 1)
theorem idxFrom_range (l : List Int) (x : Int) : ∀ i, idxFrom l x i = -1 ∨ ((i : Int) ≤ idxFrom l x i ∧ idxFrom l x i < (i : Int) + (l.length : Int)) := by
  induction l with
  | nil => intro i; exact .inl rfl
  | cons y r ih =>
    intro i
    rw [idxFrom]
    by_cases h : y = x
    · rw [if_pos h]; right; simp; omega
    · rw [if_neg h]
      rcases ih (i + 1) with e | e
      · exact .inl e
      · right; simp; omega
theorem idxFrom_shift (l : List Int) (x : Int) (m : Nat) : idxFrom l x m = if idxFrom l x 0 < 0 then -1 else (m : Int) + idxFrom l x 0 := by
  have gen : ∀ (l : List Int) (i : Nat), idxFrom l x (m + i) = if idxFrom l x i < 0 then -1 else (m : Int) + idxFrom l x i := by
    intro l
    induction l with
    | nil => intro i; rfl
    | cons y r ih =>
      intro i
      rw [idxFrom, idxFrom]
      by_cases h : y = x
      · rw [if_pos h, if_pos h, if_neg (by omega)]; omega
      · rw [if_neg h, if_neg h, Nat.add_assoc, ih (i + 1)]
  exact gen l 0
theorem index_l (l : List Int) (x : Int) (hl : l.length ≤ 140737488355328) (d : Nat) : ∀ (j : Nat), l.length - j = d → j ≤ l.length → Ev (fun k => slices_Index_int64_int64.l0 k l x (l.length : Int) (j : Int)) (idxFrom (l.drop j) x j) := by
  induction d with
  | zero =>
    intro j hd hj
    rw [List.drop_eq_nil_of_le (by omega), idxFrom]
    exact ev_ret (fun k => by rw [slices_Index_int64_int64.l0, if_neg (by omega)])
  | succ d ih =>
    intro j hd hj
    rw [drop_cons l j (by omega), idxFrom]
    by_cases h : rd l (j : Int) = x
    · rw [if_pos h]
      exact ev_ret (fun k => by rw [slices_Index_int64_int64.l0, if_pos (by omega), if_pos (by omega), if_pos (by omega), if_pos h.symm])
    · rw [if_neg h]
      refine Ev.step (fun k => ?_) (ih (j + 1) (by omega) (by omega))
      rw [slices_Index_int64_int64.l0, if_pos (by omega), if_pos (by omega), if_pos (by omega), if_neg (fun e => h e.symm), wid (x := (j : Int) + 1) (by omega) (by omega), show ((j + 1 : Nat) : Int) = (j : Int) + 1 by omega]
theorem index_is (l : List Int) (x : Int) (hl : l.length ≤ 140737488355328) : Ev (fun k => slices_Index_int64_int64.f k l x) (idxFrom l x 0) := index_l l x hl l.length 0 (by omega) (by omega)

/-- The index of the next use of the address of use i. -/
def nextOf (l : List Int) (i : Nat) : Int := idxFrom (l.drop (i + 1)) (rd l (i : Int)) (i + 1)
theorem impl_nextF (l : List Int) (i : Nat) (hi : i < l.length) (hl : l.length ≤ 60) : Ev (fun k => impl_nextUse.f k l (rd l (i : Int)) ((i : Int) + 1)) (nextOf l i) := by
  unfold impl_nextUse.f nextOf
  have hd : (l.drop (i + 1)).length = l.length - (i + 1) := List.length_drop ..
  simp only [if_pos (show (0 : Int) ≤ (i : Int) + 1 by omega), if_pos (show (i : Int) + 1 ≤ (l.length : Int) by omega), show ((i : Int) + 1).toNat = i + 1 by omega]
  refine Ev.bind (index_is _ _ (by omega)) ?_
  have hs := idxFrom_shift (l.drop (i + 1)) (rd l (i : Int)) (i + 1)
  have hr := idxFrom_range (l.drop (i + 1)) (rd l (i : Int)) 0
  generalize idxFrom (l.drop (i + 1)) (rd l (i : Int)) (i + 1) = r at hs ⊢
  generalize idxFrom (l.drop (i + 1)) (rd l (i : Int)) 0 = q at hs hr ⊢
  by_cases h : q < 0
  · simp only [if_pos h] at hs ⊢
    rw [hs]
    exact Ev.now _
  · simp only [if_neg h] at hs ⊢
    rw [wid (by omega) (by omega), hs, show (i : Int) + 1 + q = ((i + 1 : Nat) : Int) + q by omega]
    exact Ev.now _
theorem impl_all (l : List Int) (hl : l.length ≤ 60) (d : Nat) : ∀ (i : Nat) (acc : List Int), l.length - i = d → i ≤ l.length → acc.length ≤ i → Ev (fun k => impl_NextUses.l0 k l acc l (l.length : Int) (i : Int)) (acc ++ (List.range' i d).map (nextOf l), true) := by
  induction d with
  | zero =>
    intro i acc hd hi ha
    rw [List.range'_zero, List.map_nil, List.append_nil]
    exact ev_ret (fun k => by rw [impl_NextUses.l0, if_neg (by omega)])
  | succ d ih =>
    intro i acc hd hi ha
    rw [List.range'_succ, List.map_cons, List.append_cons]
    refine Ev.step (fun k => by rw [impl_NextUses.l0, if_pos (by omega), if_pos (by omega), if_pos (by omega), wid (x := (i : Int) + 1) (by omega) (by omega)]) (Ev.bind (impl_nextF l i (by omega) hl) ?_)
    simp only [if_pos (show acc.length < 17592186044416 by omega), show (i : Int) + 1 = ((i + 1 : Nat) : Int) by omega]
    exact ih (i + 1) _ (by omega) (by omega) (by simp; omega)

/-! the set of a list: rising, each number once -/
def SS (l : List Int) : Prop := l.Pairwise (· < ·)
theorem ss_eq : ∀ (a b : List Int), SS a → SS b → (∀ x, x ∈ a ↔ x ∈ b) → a = b
  | [], [], _, _, _ => rfl
  | [], y :: b, _, _, h => by have := (h y).2 (List.mem_cons_self ..); cases this
  | x :: a, [], _, _, h => by have := (h x).1 (List.mem_cons_self ..); cases this
  | x :: a, y :: b, ha, hb, h => by
    have ha' := List.pairwise_cons.1 ha
    have hb' := List.pairwise_cons.1 hb
    have e : x = y := by
      rcases List.mem_cons.1 ((h x).1 (List.mem_cons_self ..)) with e | e
      · exact e
      · rcases List.mem_cons.1 ((h y).2 (List.mem_cons_self ..)) with e2 | e2
        · exact e2.symm
        · have h1 := hb'.1 x e
          have h2 := ha'.1 y e2
          omega
    subst e
    rw [ss_eq a b ha'.2 hb'.2 (fun z => ⟨fun hz => ?_, fun hz => ?_⟩)]
    · rcases List.mem_cons.1 ((h z).1 (List.mem_cons_of_mem _ hz)) with e | e
      · have := ha'.1 z hz; omega
      · exact e
    · rcases List.mem_cons.1 ((h z).2 (List.mem_cons_of_mem _ hz)) with e | e
      · have := hb'.1 z hz; omega
      · exact e
theorem compact_mem (ts : List Int) (y : Int) : y ∈ Lib.compact ts ↔ y ∈ ts := by
  unfold Lib.compact Lib.compactUpTo
  rw [List.mem_map]
  constructor
  · rintro ⟨i, hi, rfl⟩
    rw [List.mem_filter, List.mem_range] at hi
    have : ts.toArray[i]! = ts[i]'hi.1 := by simp [hi.1]
    rw [this]
    exact List.getElem_mem _
  · intro hy
    obtain ⟨i, hi, rfl⟩ := List.getElem_of_mem hy
    have key : ∀ (n j : Nat), j ≤ n → (hj : j < ts.length) → ∃ q, q ∈ (List.range ts.length).filter (Lib.keeps ts.toArray) ∧ ts.toArray[q]! = ts[j]'hj := by
      intro n
      induction n with
      | zero =>
        intro j h0 hj
        have : j = 0 := by omega
        subst this
        exact ⟨0, by rw [List.mem_filter, List.mem_range]; exact ⟨hj, Lib.keeps_lt_one _ 0 (by omega)⟩, by simp [hj]⟩
      | succ n ih =>
        intro j h0 hj
        by_cases h : j ≤ n
        · exact ih j h hj
        · have e : j = n + 1 := by omega
          subst e
          by_cases g : ts.toArray[n + 1]! = ts.toArray[n]!
          · obtain ⟨q, hq, he⟩ := ih n (Nat.le_refl _) (by omega)
            refine ⟨q, hq, he.trans ?_⟩
            have e1 : ts.toArray[n + 1]! = ts[n + 1]'hj := by simp [hj]
            have e2 : ts.toArray[n]! = ts[n]'(by omega) := by simp [show n < ts.length by omega]
            rw [← e1, ← e2, g]
          · exact ⟨n + 1, by rw [List.mem_filter, List.mem_range]; exact ⟨hj, Lib.keeps_pos g⟩, by simp [hj]⟩
    exact key i i (Nat.le_refl _) hi
theorem compact_ss (ts : List Int) (h : ts.Pairwise (· ≤ ·)) : SS (Lib.compact ts) := by
  unfold SS Lib.compact Lib.compactUpTo
  rw [List.pairwise_map]
  refine List.Pairwise.imp_of_mem ?_ ((List.pairwise_lt_range (n := ts.length)).filter (Lib.keeps ts.toArray))
  intro i j hi hj hij
  rw [List.mem_filter, List.mem_range] at hi hj
  have hk := hj.2
  unfold Lib.keeps at hk
  have hk := of_decide_eq_true hk
  rcases hk with hk | hk
  · omega
  · rw [List.pairwise_iff_getElem] at h
    have e1 : ts.toArray[i]! = ts[i]'hi.1 := by simp [hi.1]
    have e2 : ts.toArray[j]! = ts[j]'hj.1 := by simp [hj.1]
    have e3 : ts.toArray[j - 1]! = ts[j - 1]'(by omega) := by simp [show j - 1 < ts.length by omega]
    rw [e2, e3] at hk
    rw [e1, e2]
    have l1 : ts[j - 1]'(by omega) ≤ ts[j]'hj.1 := h (j - 1) j (by omega) hj.1 (by omega)
    have l2 : ts[i]'hi.1 ≤ ts[j - 1]'(by omega) := by
      by_cases e : i = j - 1
      · subst e; exact Int.le_refl _
      · exact h i (j - 1) hi.1 (by omega) (by omega)
    omega
theorem setL_ss (l : List Int) : SS (SetOf.setL l) := by
  unfold SetOf.setL
  refine compact_ss _ ?_
  have := List.pairwise_mergeSort (le := fun x y : Int => decide (x ≤ y)) (fun a b c h1 h2 => by simp at h1 h2 ⊢; omega) (fun a b => by simp; omega) l
  exact this.imp (fun h => by simpa using h)
theorem setL_mem (l : List Int) (y : Int) : y ∈ SetOf.setL l ↔ y ∈ l := by
  unfold SetOf.setL
  rw [compact_mem, List.mem_mergeSort]
theorem setL_len (l : List Int) : (SetOf.setL l).length ≤ l.length := by
  unfold SetOf.setL Lib.compact Lib.compactUpTo
  rw [List.length_map]
  refine Nat.le_trans (List.length_filter_le _ _) ?_
  rw [List.length_range, List.length_mergeSort]
  exact Nat.le_refl _
def ins (n : Int) : List Int → List Int
  | [] => [n]
  | x :: r => if x > n then n :: x :: r else if x = n then x :: r else x :: ins n r
theorem ins_mem (n y : Int) : ∀ l, y ∈ ins n l ↔ y = n ∨ y ∈ l
  | [] => by simp [ins]
  | x :: r => by
    rw [ins]
    split
    · simp
    · split
      · rename_i h; subst h; simp
      · rw [List.mem_cons, ins_mem n y r, List.mem_cons]
        constructor
        · rintro (h | h | h)
          · exact .inr (.inl h)
          · exact .inl h
          · exact .inr (.inr h)
        · rintro (h | h | h)
          · exact .inr (.inl h)
          · exact .inl h
          · exact .inr (.inr h)
theorem ins_ss (n : Int) : ∀ l, SS l → SS (ins n l)
  | [], _ => List.pairwise_singleton _ _
  | x :: r, h => by
    have h' := List.pairwise_cons.1 h
    rw [ins]
    split
    · refine List.pairwise_cons.2 ⟨fun y hy => ?_, h⟩
      rcases List.mem_cons.1 hy with e | e
      · omega
      · have := h'.1 y e; omega
    · split
      · exact h
      · refine List.pairwise_cons.2 ⟨fun y hy => ?_, ins_ss n r h'.2⟩
        rcases (ins_mem n y r).1 hy with e | e
        · omega
        · exact h'.1 y e
theorem ins_len (n : Int) : ∀ l, (ins n l).length ≤ l.length + 1
  | [] => by simp [ins]
  | x :: r => by
    rw [ins]
    split
    · simp
    · split
      · simp
      · have := ins_len n r; simp; omega
theorem ins_setL (n : Int) (l : List Int) : ins n (SetOf.setL l) = SetOf.setL (l ++ [n]) := by
  refine ss_eq _ _ (ins_ss _ _ (setL_ss _)) (setL_ss _) (fun x => ?_)
  rw [ins_mem, setL_mem, setL_mem, List.mem_append, List.mem_singleton]
  exact Or.comm
theorem setL_nil : SetOf.setL [] = [] := List.eq_nil_of_length_eq_zero (by have := setL_len []; simpa using this)
theorem setL_one (n : Int) : SetOf.setL [n] = [n] := by
  have := ins_setL n []
  rw [setL_nil, List.nil_append] at this
  exact this.symm
theorem impl_set (l : List Int) (h : l.length ≤ 1048576) : impl_setOf.f l = some (SetOf.setL l) := by
  unfold impl_setOf.f
  rw [if_pos h]

/-! where the next use of an address stands, or the end; how many addresses a window has -/
theorem idx_char (x : Int) : ∀ (r : List Int) (m j : Nat), x ∈ r.take j ↔ 0 ≤ idxFrom r x m ∧ idxFrom r x m < (m : Int) + (j : Int)
  | [], m, j => by rw [idxFrom, List.take_nil]; constructor; (intro h; cases h); (intro h; omega)
  | y :: r, m, 0 => by
    have hr := idxFrom_range (y :: r) x m
    rw [List.take_zero]
    constructor
    · intro h; cases h
    · intro h; omega
  | y :: r, m, j + 1 => by
    rw [idxFrom, List.take_succ_cons, List.mem_cons]
    by_cases h : y = x
    · rw [if_pos h]; exact ⟨fun _ => by omega, fun _ => .inl h.symm⟩
    · rw [if_neg h, idx_char x r (m + 1) j]
      constructor
      · rintro (e | e)
        · exact absurd e.symm h
        · omega
      · intro e; right; omega
def endOf (l : List Int) (i : Nat) : Nat := if nextOf l i < 0 then l.length else (nextOf l i).toNat
theorem endOf_bd (l : List Int) (i : Nat) (hi : i < l.length) : i < endOf l i ∧ endOf l i ≤ l.length := by
  have hr := idxFrom_range (l.drop (i + 1)) (rd l (i : Int)) (i + 1)
  rw [List.length_drop] at hr
  unfold endOf nextOf
  split <;> omega
theorem endOf_mem (l : List Int) (i j : Nat) (hi : i < j) (hj : j ≤ l.length) : rd l (i : Int) ∈ (l.take j).drop (i + 1) ↔ endOf l i < j := by
  have hr := idxFrom_range (l.drop (i + 1)) (rd l (i : Int)) (i + 1)
  rw [List.length_drop] at hr
  rw [List.drop_take, idx_char _ _ (i + 1)]
  unfold endOf nextOf
  split <;> omega
theorem ins_len2 (n : Int) : ∀ l, SS l → (ins n l).length = l.length + (if n ∈ l then 0 else 1)
  | [], _ => by simp [ins]
  | x :: r, h => by
    have h' := List.pairwise_cons.1 h
    rw [ins]
    split
    · rename_i g
      rw [if_neg]
      · rfl
      · intro hm
        rcases List.mem_cons.1 hm with e | e
        · omega
        · have := h'.1 n e; omega
    · split
      · rename_i g; rw [if_pos (by rw [g]; exact List.mem_cons_self ..)]; rfl
      · rename_i g1 g2
        rw [List.length_cons, ins_len2 n r h'.2, List.length_cons]
        have : n ∈ x :: r ↔ n ∈ r := by
          rw [List.mem_cons]
          exact ⟨fun h => h.elim (fun e => absurd e.symm g2) id, .inr⟩
        by_cases q : n ∈ r
        · rw [if_pos q, if_pos (this.2 q)]
        · rw [if_neg q, if_neg (fun e => q (this.1 e))]
theorem setL_cons_len (x : Int) (r : List Int) : (SetOf.setL (x :: r)).length = (SetOf.setL r).length + (if x ∈ r then 0 else 1) := by
  have e : SetOf.setL (x :: r) = ins x (SetOf.setL r) := by
    refine ss_eq _ _ (setL_ss _) (ins_ss _ _ (setL_ss _)) (fun y => ?_)
    rw [setL_mem, ins_mem, setL_mem, List.mem_cons]
  rw [e, ins_len2 x _ (setL_ss _)]
  congr 1
  by_cases q : x ∈ r
  · rw [if_pos q, if_pos ((setL_mem _ _).2 q)]
  · rw [if_neg q, if_neg (fun h => q ((setL_mem _ _).1 h))]
/-- How many of the places a, .., a + d - 1 have their next use at j or later. -/
def lastC (l : List Int) (j : Nat) : Nat → Nat → Nat
  | _, 0 => 0
  | a, d + 1 => (if endOf l a < j then 0 else 1) + lastC l j (a + 1) d
theorem rd_take (l : List Int) (j a : Nat) (h : a < j) : rd (l.take j) (a : Int) = rd l (a : Int) := by
  rw [rd_nat, rd_nat, List.getD_eq_getElem?_getD, List.getD_eq_getElem?_getD, List.getElem?_take, if_pos h]
theorem seg_set (l : List Int) (j : Nat) (hj : j ≤ l.length) : ∀ (d a : Nat), a + d = j → (SetOf.setL ((l.take j).drop a)).length = lastC l j a d
  | 0, a, h => by
    rw [List.drop_eq_nil_of_le (by rw [List.length_take]; omega), setL_nil]
    rfl
  | d + 1, a, h => by
    rw [drop_cons (l.take j) a (by rw [List.length_take]; omega), rd_take l j a (by omega), setL_cons_len, seg_set l j hj d (a + 1) (by omega), lastC, Nat.add_comm]
    have hm := endOf_mem l a j (by omega) hj
    by_cases q : endOf l a < j
    · rw [if_pos q, if_pos (hm.2 q)]
    · rw [if_neg q, if_neg (fun e => q (hm.1 e))]

def cnt (l : List Int) (x : Int) : Nat := (l.filter (fun y => decide (y = x))).length
theorem cnt_nil (x : Int) : cnt [] x = 0 := rfl
theorem cnt_cons (y x : Int) (l : List Int) : cnt (y :: l) x = (if y = x then 1 else 0) + cnt l x := by
  unfold cnt
  rw [List.filter_cons]
  by_cases h : y = x
  · rw [if_pos h, decide_eq_true h, if_pos rfl, List.length_cons]; omega
  · rw [if_neg h, decide_eq_false h, if_neg (by decide)]; omega
theorem cnt_drop (l : List Int) (x : Int) (j : Nat) (h : j < l.length) : cnt (l.drop j) x = (if rd l (j : Int) = x then 1 else 0) + cnt (l.drop (j + 1)) x :=
  (congrArg (fun q => cnt q x) (drop_cons l j h)).trans (cnt_cons _ _ _)
theorem cnt_le (l : List Int) (x : Int) : cnt l x ≤ l.length := List.length_filter_le _ _
attribute [irreducible] cnt
theorem impl_cnt_l (l s : List Int) (i : Nat) (acc : List Int) (hl : l.length ≤ 60) (hi : i < s.length) (hs : s.length ≤ 60) (ha : acc.length ≤ i) (r : List Int × Bool)
    (h : Ev (fun k => impl_CountsOf.l0 k l (acc ++ [(cnt l (rd s (i : Int)) : Int)]) s (s.length : Int) ((i + 1 : Nat) : Int)) r) (d : Nat) : ∀ (j : Nat) (c : Nat), l.length - j = d → j ≤ l.length → c + cnt (l.drop j) (rd s (i : Int)) = cnt l (rd s (i : Int)) →
    Ev (fun k => impl_CountsOf.l1 k l acc (rd s (i : Int)) (c : Int) s (s.length : Int) (i : Int) l (l.length : Int) (j : Int)) r := by
  induction d with
  | zero =>
    intro j c hd hj
    have hjl : l.length ≤ j := by omega
    intro hc
    rw [List.drop_eq_nil_of_le hjl] at hc
    rw [cnt_nil, Nat.add_zero] at hc
    have hcb : c ≤ 60 := by rw [hc]; exact Nat.le_trans (cnt_le _ _) hl
    rw [← hc] at h
    clear hc
    refine Ev.step (fun k => ?_) h
    rw [impl_CountsOf.l1, if_neg (by omega), if_pos (by omega), wid (x := (i : Int) + 1) (by omega) (by omega), show ((i + 1 : Nat) : Int) = (i : Int) + 1 by omega]
  | succ d ih =>
    intro j c hd hj
    have hjl : j < l.length := by omega
    have w1 : wrap64 ((j : Int) + 1) = ((j + 1 : Nat) : Int) := by rw [wid (by omega) (by omega)]; omega
    intro hc
    have hcb : c ≤ 60 := Nat.le_trans (Nat.le.intro hc) (Nat.le_trans (cnt_le l (rd s (i : Int))) hl)
    rw [cnt_drop l (rd s (i : Int)) j hjl] at hc
    by_cases g : rd l (j : Int) = rd s (i : Int)
    · rw [if_pos g, ← Nat.add_assoc] at hc
      have hc2 := fun h1 h2 => ih (j + 1) (c + 1) h1 h2 hc
      clear hc ih h
      refine Ev.step (fun k => ?_) (hc2 (by omega) (by omega))
      rw [impl_CountsOf.l1, if_pos (by omega), if_pos (by omega), if_pos (by omega), if_pos g.symm, w1, wid (x := (c : Int) + 1) (by omega) (by omega), show ((c + 1 : Nat) : Int) = (c : Int) + 1 by omega]
    · rw [if_neg g, Nat.zero_add] at hc
      have hc2 := fun h1 h2 => ih (j + 1) c h1 h2 hc
      clear hc ih h
      refine Ev.step (fun k => ?_) (hc2 (by omega) (by omega))
      rw [impl_CountsOf.l1, if_pos (by omega), if_pos (by omega), if_pos (by omega), if_neg (fun e => g e.symm), w1]
theorem impl_cs_l (l s : List Int) (hl : l.length ≤ 60) (hs : s.length ≤ 60) (d : Nat) : ∀ (i : Nat) (acc : List Int), s.length - i = d → i ≤ s.length → acc.length ≤ i → Ev (fun k => impl_CountsOf.l0 k l acc s (s.length : Int) (i : Int)) (acc ++ (s.drop i).map (fun x => (cnt l x : Int)), true) := by
  induction d with
  | zero =>
    intro i acc hd hi ha
    rw [List.drop_eq_nil_of_le (by omega), List.map_nil, List.append_nil]
    exact ev_ret (fun k => by rw [impl_CountsOf.l0, if_neg (by omega)])
  | succ d ih =>
    intro i acc hd hi ha
    have hx := ih (i + 1) (acc ++ [(cnt l (rd s (i : Int)) : Int)]) (by omega) (by omega) (by simp; omega)
    rw [← List.append_cons] at hx
    rw [drop_cons s i (by omega), List.map_cons]
    have hy := impl_cnt_l l s i acc hl (by omega) hs ha _ hx l.length 0 0 (by omega) (by omega) (by rw [List.drop_zero, Nat.zero_add])
    rw [show ((0 : Nat) : Int) = 0 from rfl] at hy
    exact Ev.step (fun k => by rw [impl_CountsOf.l0, if_pos (by omega), if_pos (by omega), if_pos (by omega)]) hy

def keep (l s : List Int) : List Int := l.filter (fun x => decide (idxFrom s x 0 ≥ 0))
/-- Rising from place i on. -/
def risFrom (l : List Int) (i : Nat) : Bool := decide (∀ j, j < l.length → i ≤ j → 0 < j → l.getD (j - 1) 0 < l.getD j 0)
theorem risFrom_end (l : List Int) (i : Nat) (h : l.length ≤ i) : risFrom l i = true := decide_eq_true (fun j h1 h2 _ => by omega)
theorem risFrom_step (l : List Int) (i : Nat) (hi : i < l.length) (h0 : 0 < i) : risFrom l i = (decide (l.getD (i - 1) 0 < l.getD i 0) && risFrom l (i + 1)) := by
  unfold risFrom
  rw [← Bool.decide_and]
  congr 1
  apply propext
  constructor
  · intro h; exact ⟨h i hi (Nat.le_refl _) h0, fun j h1 h2 h3 => h j h1 (by omega) h3⟩
  · intro h j h1 h2 h3
    by_cases e : j = i
    · subst e; exact h.1
    · exact h.2 j h1 (by omega) h3
theorem risFrom_zero (l : List Int) : risFrom l 0 = risFrom l 1 := by
  unfold risFrom
  congr 1
  apply propext
  exact ⟨fun h j h1 h2 h3 => h j h1 (by omega) h3, fun h j h1 h2 h3 => h j h1 (by omega) h3⟩
theorem impl_rises_l (l : List Int) (hl : l.length ≤ 140737488355328) (d : Nat) : ∀ (i : Nat), 0 < i → (i ≤ l.length ∨ i = 1) → l.length - i = d → Ev (fun k => impl_isIncreasing.l0 k l (i : Int)) (risFrom l i) := by
  induction d with
  | zero =>
    intro i h0 hi hd
    rw [risFrom_end l i (by omega)]
    exact ev_ret (fun k => by rw [impl_isIncreasing.l0, if_neg (by omega)])
  | succ d ih =>
    intro i h0 hi hd
    rw [risFrom_step l i (by omega) h0]
    have w1 : wrap64 ((i : Int) - 1) = ((i - 1 : Nat) : Int) := by rw [wid (by omega) (by omega)]; omega
    by_cases g : l.getD (i - 1) 0 < l.getD i 0
    · rw [decide_eq_true g, Bool.true_and]
      refine Ev.step (fun k => ?_) (ih (i + 1) (by omega) (by omega) (by omega))
      rw [impl_isIncreasing.l0, if_pos (by omega), w1, if_pos (by omega), if_pos (by omega), if_pos (by omega), if_neg (by rw [rd_nat, rd_nat]; omega), wid (x := (i : Int) + 1) (by omega) (by omega), show ((i + 1 : Nat) : Int) = (i : Int) + 1 by omega]
    · rw [decide_eq_false g, Bool.false_and]
      refine ev_ret (fun k => ?_)
      rw [impl_isIncreasing.l0, if_pos (by omega), w1, if_pos (by omega), if_pos (by omega), if_pos (by omega), if_pos (by rw [rd_nat, rd_nat]; omega)]
theorem impl_has (s : List Int) (x : Int) (hl : s.length ≤ 140737488355328) : Ev (fun k => slices_Contains_int64_int64.f k s x) (decide (idxFrom s x 0 ≥ 0)) := by
  unfold slices_Contains_int64_int64.f
  exact Ev.bind (index_is _ _ (by omega)) (Ev.now _)
theorem impl_only_l (l s : List Int) (hl : l.length ≤ 60) (hs : s.length ≤ 140737488355328) (d : Nat) : ∀ (i : Nat) (acc : List Int), l.length - i = d → i ≤ l.length → acc.length ≤ i → Ev (fun k => impl_OnlyUses.l0 k s acc l (l.length : Int) (i : Int)) (acc ++ keep (l.drop i) s, true) := by
  induction d with
  | zero =>
    intro i acc hd hi ha
    rw [List.drop_eq_nil_of_le (by omega), keep, List.filter_nil, List.append_nil]
    exact ev_ret (fun k => by rw [impl_OnlyUses.l0, if_neg (by omega)])
  | succ d ih =>
    intro i acc hd hi ha
    rw [drop_cons l i (by omega), keep, List.filter_cons]
    refine Ev.step (fun k => by rw [impl_OnlyUses.l0, if_pos (by omega), if_pos (by omega), if_pos (by omega), wid (x := (i : Int) + 1) (by omega) (by omega)]) (Ev.bind (impl_has s _ hs) ?_)
    by_cases h : decide (idxFrom s (rd l (i : Int)) 0 ≥ 0) = true
    · simp only [if_pos h, if_pos (show acc.length < 17592186044416 by omega)]
      have hx := ih (i + 1) (acc ++ [rd l (i : Int)]) (by omega) (by omega) (by simp; omega)
      rw [show ((i + 1 : Nat) : Int) = (i : Int) + 1 by omega, ← List.append_cons] at hx
      exact hx
    · simp only [if_neg h]
      have hx := ih (i + 1) acc (by omega) (by omega) (by omega)
      rw [show ((i + 1 : Nat) : Int) = (i : Int) + 1 by omega] at hx
      exact hx

/-- The index of the last x before place j, -1 if there is none. -/
def lastBefore (l : List Int) (x : Int) : Nat → Int
  | 0 => -1
  | j + 1 => if rd l (j : Int) = x then (j : Int) else lastBefore l x j
theorem lastBefore_range (l : List Int) (x : Int) : ∀ j : Nat, lastBefore l x j = -1 ∨ (0 ≤ lastBefore l x j ∧ lastBefore l x j < (j : Int)) := by
  intro j
  induction j with
  | zero => exact .inl rfl
  | succ j ih =>
    rw [lastBefore]
    by_cases h : rd l (j : Int) = x
    · rw [if_pos h]; right; omega
    · rw [if_neg h]; omega
theorem lastBefore_take (l : List Int) (x : Int) (m : Nat) : ∀ j : Nat, j ≤ m → lastBefore (l.take m) x j = lastBefore l x j := by
  intro j
  induction j with
  | zero => intro _; rfl
  | succ j ih =>
    intro hj
    have e : rd (l.take m) (j : Int) = rd l (j : Int) := by
      rw [rd_nat, rd_nat, List.getD_eq_getElem?_getD, List.getD_eq_getElem?_getD, List.getElem?_take, if_pos (by omega)]
    rw [lastBefore, lastBefore, e, ih (by omega)]
def gapOf (l : List Int) (i : Nat) : Int := if lastBefore l (rd l (i : Int)) i < 0 then 0 else (i : Int) - lastBefore l (rd l (i : Int)) i
theorem impl_last_l (l : List Int) (x : Int) (hl : l.length ≤ 1000) : ∀ (j : Nat), j ≤ l.length → Ev (fun k => impl_lastUse.l0 k l x ((j : Int) - 1)) (lastBefore l x j) := by
  intro j
  induction j with
  | zero =>
    intro hj
    exact ev_ret (fun k => by rw [impl_lastUse.l0, if_neg (by omega), lastBefore])
  | succ j ih =>
    intro hj
    rw [show ((j + 1 : Nat) : Int) - 1 = (j : Int) by omega, lastBefore]
    by_cases h : rd l (j : Int) = x
    · rw [if_pos h]
      exact ev_ret (fun k => by rw [impl_lastUse.l0, if_pos (by omega), if_pos (by omega), if_pos (by omega), if_pos h])
    · rw [if_neg h]
      refine Ev.step (fun k => ?_) (ih (by omega))
      rw [impl_lastUse.l0, if_pos (by omega), if_pos (by omega), if_pos (by omega), if_neg h, wid (by omega) (by omega)]
theorem impl_gap_l (l : List Int) (hl : l.length ≤ 60) (d : Nat) : ∀ (i : Nat) (acc : List Int), l.length - i = d → i ≤ l.length → acc.length ≤ i → Ev (fun k => impl_GapsOf.l0 k l acc l (l.length : Int) (i : Int)) (acc ++ (List.range' i d).map (gapOf l), true) := by
  induction d with
  | zero =>
    intro i acc hd hi ha
    rw [List.range'_zero, List.map_nil, List.append_nil]
    exact ev_ret (fun k => by rw [impl_GapsOf.l0, if_neg (by omega)])
  | succ d ih =>
    intro i acc hd hi ha
    rw [List.range'_succ, List.map_cons, List.append_cons]
    have e : Ev (fun k => impl_lastUse.f k (l.take i) (rd l (i : Int))) (lastBefore l (rd l (i : Int)) i) := by
      unfold impl_lastUse.f
      have hlt : (l.take i).length = i := by rw [List.length_take]; omega
      rw [hlt, wid (by omega) (by omega), ← lastBefore_take l _ i i (by omega)]
      exact impl_last_l _ _ (by omega) i (by omega)
    refine Ev.step (fun k => by rw [impl_GapsOf.l0, if_pos (by omega), if_pos (by omega), if_pos (by omega), if_pos (by omega), Int.toNat_natCast, wid (x := (i : Int) + 1) (by omega) (by omega)]) (Ev.bind e ?_)
    have hr := lastBefore_range l (rd l (i : Int)) i
    have hx := ih (i + 1) (acc ++ [gapOf l i]) (by omega) (by omega) (by simp; omega)
    rw [show ((i + 1 : Nat) : Int) = (i : Int) + 1 by omega] at hx
    by_cases h : lastBefore l (rd l (i : Int)) i < 0
    · simp only [if_neg (show ¬ (lastBefore l (rd l (i : Int)) i ≥ 0) by omega), if_pos (show acc.length < 17592186044416 by omega)]
      have hg : gapOf l i = 0 := by unfold gapOf; rw [if_pos h]
      rw [hg] at hx ⊢; exact hx
    · simp only [if_pos (show (lastBefore l (rd l (i : Int)) i ≥ 0) by omega), if_pos (show acc.length < 17592186044416 by omega)]
      have hg : gapOf l i = (i : Int) - lastBefore l (rd l (i : Int)) i := by unfold gapOf; rw [if_neg h]
      rw [hg] at hx ⊢; rw [wid (by omega) (by omega)]; exact hx
def gapsAns (l : List Int) : List Int × Bool := if usesOk l = true then ((List.range' 0 l.length).map (gapOf l), true) else ([], false)
theorem impl_gaps (l : List Int) : Ev (fun k => impl_GapsOf.f k l) (gapsAns l) := by
  unfold impl_GapsOf.f gapsAns
  simp only [impl_uses, Option.bind_some]
  by_cases h : usesOk l = true
  · simp only [if_pos h]
    exact impl_gap_l l (usesOk_len h) l.length 0 [] (by omega) (by omega) (by simp)
  · simp only [if_neg h]
    exact Ev.now _

theorem idxFrom_get (l : List Int) (x : Int) : ∀ i, 0 ≤ idxFrom l x i → l.getD (idxFrom l x i - (i : Int)).toNat 0 = x := by
  induction l with
  | nil => intro i h; rw [idxFrom] at h; omega
  | cons y r ih =>
    intro i h
    rw [idxFrom] at h ⊢
    by_cases e : y = x
    · rw [if_pos e]; simp [e]
    · rw [if_neg e] at h ⊢
      have hr := idxFrom_range r x (i + 1)
      have := ih (i + 1) h
      rw [show (idxFrom r x (i + 1) - (i : Int)).toNat = (idxFrom r x (i + 1) - ((i + 1 : Nat) : Int)).toNat + 1 by omega, List.getD_cons_succ]
      exact this

theorem one_in (y : Int) : ∀ (S : List Int), SS S → sm (S.map (fun x => if y = x then (1 : Int) else 0)) = if y ∈ S then 1 else 0
  | [], _ => rfl
  | x :: S, h => by
    have h' := List.pairwise_cons.1 h
    rw [List.map_cons, sm, one_in y S h'.2]
    by_cases e : y = x
    · subst e
      have : y ∉ S := fun hm => by have := h'.1 y hm; omega
      rw [if_pos rfl, if_neg this, if_pos (List.mem_cons_self ..)]; rfl
    · have : y ∈ x :: S ↔ y ∈ S := by rw [List.mem_cons]; exact ⟨fun h => h.elim (fun q => absurd q e) id, .inr⟩
      rw [if_neg e, Int.zero_add]
      by_cases q : y ∈ S
      · rw [if_pos q, if_pos (this.2 q)]
      · rw [if_neg q, if_neg (fun h => q (this.1 h))]
theorem sm_add (f g : Int → Int) : ∀ (S : List Int), sm (S.map (fun x => f x + g x)) = sm (S.map f) + sm (S.map g)
  | [] => rfl
  | x :: S => by
    rw [List.map_cons, List.map_cons, List.map_cons, sm, sm, sm, sm_add f g S]
    omega
theorem cnt_sum (S : List Int) (hS : SS S) : ∀ (l : List Int), (∀ x ∈ l, x ∈ S) → sm (S.map (fun x => (cnt l x : Int))) = (l.length : Int)
  | [], _ => by
    have : ∀ T : List Int, sm (T.map (fun x => (cnt [] x : Int))) = 0 := by
      intro T
      induction T with
      | nil => rfl
      | cons x T ih => rw [List.map_cons, sm, ih, cnt_nil]; rfl
    rw [this S]
    rfl
  | y :: l, h => by
    have e : (fun x => (cnt (y :: l) x : Int)) = (fun x => (if y = x then (1 : Int) else 0) + (cnt l x : Int)) := by
      funext x
      rw [cnt_cons]
      by_cases g : y = x
      · rw [if_pos g, if_pos g]; exact Int.natCast_add _ _
      · rw [if_neg g, if_neg g]; exact Int.natCast_add _ _
    rw [e, sm_add, one_in y S hS, if_pos (h y (List.mem_cons_self ..)), cnt_sum S hS l (fun x hx => h x (List.mem_cons_of_mem _ hx)), List.length_cons]
    omega
theorem last_char (l : List Int) (x : Int) : ∀ (j : Nat), j ≤ l.length → (x ∈ l.take j ↔ 0 ≤ lastBefore l x j)
  | 0, _ => by rw [List.take_zero, lastBefore]; constructor; (intro h; cases h); (intro h; omega)
  | j + 1, hj => by
    rw [take_snoc l j (by omega), List.mem_append, List.mem_singleton, lastBefore, last_char l x j (by omega)]
    by_cases h : rd l (j : Int) = x
    · rw [if_pos h]; exact ⟨fun _ => by omega, fun _ => .inr h.symm⟩
    · rw [if_neg h]; exact ⟨fun q => q.elim id (fun e => absurd e.symm h), .inl⟩
theorem last_is (l : List Int) (x : Int) (i : Nat) (hx : rd l (i : Int) = x) : ∀ (j : Nat), i < j → (∀ t, i < t → t < j → rd l (t : Int) ≠ x) → lastBefore l x j = (i : Int)
  | 0, h, _ => by omega
  | j + 1, h, hm => by
    rw [lastBefore]
    by_cases e : j = i
    · subst e; rw [if_pos hx]
    · rw [if_neg (hm j (by omega) (by omega)), last_is l x i hx j (by omega) (fun t h1 h2 => hm t h1 (by omega))]
theorem gap_zero (l : List Int) (i : Nat) (hi : i < l.length) : gapOf l i = 0 ↔ rd l (i : Int) ∉ l.take i := by
  have hc := last_char l (rd l (i : Int)) i (by omega)
  have hr := lastBefore_range l (rd l (i : Int)) i
  unfold gapOf
  by_cases h : lastBefore l (rd l (i : Int)) i < 0
  · rw [if_pos h]; exact ⟨fun _ q => by have := hc.1 q; omega, fun _ => rfl⟩
  · rw [if_neg h]
    constructor
    · intro q; omega
    · intro q; exact absurd (hc.2 (by omega)) q
theorem set_grow (l : List Int) (i : Nat) (hi : i < l.length) : (SetOf.setL (l.take (i + 1))).length = (SetOf.setL (l.take i)).length + (if gapOf l i = 0 then 1 else 0) := by
  rw [take_snoc l i hi, ← ins_setL, ins_len2 _ _ (setL_ss _)]
  congr 1
  have hg := gap_zero l i hi
  by_cases q : rd l (i : Int) ∈ l.take i
  · rw [if_pos ((setL_mem _ _).2 q), if_neg (fun h => hg.1 h q)]
  · rw [if_neg (fun h => q ((setL_mem _ _).1 h)), if_pos (hg.2 q)]
theorem next_facts (l : List Int) (i : Nat) (hi : i < l.length) (h : 0 ≤ nextOf l i) : ∃ j : Nat, nextOf l i = (j : Int) ∧ i < j ∧ j < l.length ∧ rd l (j : Int) = rd l (i : Int) ∧ gapOf l j = (j : Int) - (i : Int) := by
  have hr := idxFrom_range (l.drop (i + 1)) (rd l (i : Int)) (i + 1)
  have hg := idxFrom_get (l.drop (i + 1)) (rd l (i : Int)) (i + 1) h
  have hc := fun t => idx_char (rd l (i : Int)) (l.drop (i + 1)) (i + 1) t
  unfold nextOf at h ⊢
  rw [List.length_drop] at hr
  generalize idxFrom (l.drop (i + 1)) (rd l (i : Int)) (i + 1) = q at *
  obtain ⟨j, rfl⟩ : ∃ j : Nat, q = (j : Int) := ⟨q.toNat, by omega⟩
  have hjj : rd l (j : Int) = rd l (i : Int) := by
    rw [show ((j : Int) - ((i + 1 : Nat) : Int)).toNat = j - (i + 1) by omega, List.getD_eq_getElem?_getD, List.getElem?_drop, show i + 1 + (j - (i + 1)) = j by omega, ← List.getD_eq_getElem?_getD] at hg
    rw [rd_nat, hg]
  have hmin : ∀ t, i < t → t < j → rd l (t : Int) ≠ rd l (i : Int) := by
    intro t h1 h2 e
    have hm : rd l (i : Int) ∈ (l.drop (i + 1)).take (t - i) := by
      have e2 : ((l.drop (i + 1)).take (t - i))[t - i - 1]? = some (rd l (t : Int)) := by
        rw [List.getElem?_take, if_pos (by omega), List.getElem?_drop, show i + 1 + (t - i - 1) = t by omega, rd_nat, List.getD_eq_getElem?_getD, List.getElem?_eq_getElem (by omega)]
        rfl
      rw [← e]
      exact List.mem_of_getElem? e2
    have := (hc (t - i)).1 hm
    omega
  refine ⟨j, rfl, by omega, by omega, hjj, ?_⟩
  unfold gapOf
  rw [hjj, last_is l (rd l (i : Int)) i rfl j (by omega) hmin, if_neg (by omega)]
theorem map_at (f : Nat → Int) (n i : Nat) (h : i < n) : rd ((List.range' 0 n).map f) (i : Int) = f i := by
  rw [rd_nat, List.getD_eq_getElem?_getD, List.getElem?_map, List.getElem?_range' h]
  simp
theorem keep_cnt (l : List Int) (x : Int) : (keep l [x]).length = cnt l x := by
  unfold keep cnt
  congr 2
  funext y
  rw [idxFrom, idxFrom]
  by_cases h : x = y
  · rw [if_pos h, decide_eq_true (by omega), decide_eq_true h.symm]
  · rw [if_neg h, decide_eq_false (by omega), decide_eq_false (fun e => h e.symm)]
theorem only_one (l : List Int) (x : Int) (hu : usesOk l = true) (hx : 0 ≤ x ∧ x ≤ 63) : Ev (fun k => impl_OnlyUses.f k l [x]) (keep l [x], true) := by
  have hn := usesOk_len hu
  unfold impl_OnlyUses.f impl_allIn.f
  have ha : ([x].all fun y => decide (0 ≤ y) && decide (y ≤ 63)) = true := by
    rw [List.all_cons, List.all_nil, Bool.and_true, Bool.and_eq_true, decide_eq_true_eq, decide_eq_true_eq]; exact hx
  simp only [impl_uses, Option.bind_some, if_pos hu, if_pos ha]
  have ei := impl_rises_l [x] (by simp) 0 1 (by omega) (.inr rfl) rfl
  rw [risFrom_end [x] 1 (by simp)] at ei
  refine Ev.bind ei ?_
  simp only [Bool.not_true]
  refine Ev.step (fun k => by rw [impl_OnlyUses.j0, if_neg (by decide)]) ?_
  exact impl_only_l l [x] hn (by simp) l.length 0 [] (by omega) (by omega) (by simp)
theorem us_l1 (l : List Int) (hu : usesOk l = true) (fst : Nat) (hf : fst = (SetOf.setL l).length) (d : Nat) : ∀ (i : Nat), (SetOf.setL l).length - i = d → i ≤ (SetOf.setL l).length →
    Ev (fun k => laws_FnUsed.l1 k l (SetOf.setL l) ((SetOf.setL l).map (fun x => (cnt l x : Int))) (fst : Int) (i : Int)) true := by
  have hn := usesOk_len hu
  have hsl := setL_len l
  induction d with
  | zero =>
    intro i hd hi
    exact ev_ret (fun k => by rw [laws_FnUsed.l1, if_neg (by omega), hf, beq_self_eq_true])
  | succ d ih =>
    intro i hd hi
    have hm := (setL_mem l _).1 (rd_mem (SetOf.setL l) i (by omega))
    have hcn : rd ((SetOf.setL l).map (fun x => (cnt l x : Int))) (i : Int) = (cnt l (rd (SetOf.setL l) (i : Int)) : Int) := by
      rw [rd_nat, rd_nat, List.getD_eq_getElem?_getD, List.getD_eq_getElem?_getD, List.getElem?_map, List.getElem?_eq_getElem (by omega)]
      rfl
    have hml : ((SetOf.setL l).map (fun x => (cnt l x : Int))).length = (SetOf.setL l).length := List.length_map ..
    refine Ev.step (fun k => by rw [laws_FnUsed.l1, if_pos (by omega), if_pos (by omega)]) (Ev.bind (only_one l _ hu (usesOk_mem hu hm)) ?_)
    simp only [if_true, keep_cnt, hcn, hml, if_pos (show (i : Int) < ((SetOf.setL l).length : Int) by omega)]
    rw [wid (x := (i : Int) + 1) (by omega) (by omega), show (i : Int) + 1 = ((i + 1 : Nat) : Int) by omega]
    exact ih (i + 1) (by omega) (by omega)
theorem us_l0 (l : List Int) (hu : usesOk l = true) (d : Nat) : ∀ (i : Nat), l.length - i = d → i ≤ l.length →
    Ev (fun k => laws_FnUsed.l0 k l (SetOf.setL l) ((SetOf.setL l).map (fun x => (cnt l x : Int))) ((List.range' 0 l.length).map (gapOf l)) ((List.range' 0 l.length).map (nextOf l)) ((SetOf.setL (l.take i)).length : Int) (i : Int)) true := by
  have hn := usesOk_len hu
  have hgl : ((List.range' 0 l.length).map (gapOf l)).length = l.length := by rw [List.length_map, List.length_range']
  have hnl : ((List.range' 0 l.length).map (nextOf l)).length = l.length := by rw [List.length_map, List.length_range']
  induction d with
  | zero =>
    intro i hd hi
    have e := us_l1 l hu (SetOf.setL (l.take i)).length (by rw [List.take_of_length_le (by omega)]) _ 0 rfl (by omega)
    refine Ev.step (fun k => ?_) e
    rw [laws_FnUsed.l0, if_neg (by omega)]
    rfl
  | succ d ih =>
    intro i hd hi
    have hx := ih (i + 1) (by omega) (by omega)
    have hs := setL_len (l.take i)
    rw [List.length_take] at hs
    have hj : Ev (fun k => laws_FnUsed.j2 k l (SetOf.setL l) ((SetOf.setL l).map (fun x => (cnt l x : Int))) ((List.range' 0 l.length).map (gapOf l)) ((List.range' 0 l.length).map (nextOf l)) ((SetOf.setL (l.take (i + 1))).length : Int) (i : Int)) true := by
      refine Ev.step (fun k => ?_) hx
      have w1 : wrap64 ((i : Int) + 1) = ((i + 1 : Nat) : Int) := by rw [wid (by omega) (by omega)]; omega
      rw [laws_FnUsed.j2, if_pos (by omega), if_pos (by omega), map_at _ _ _ (by omega), w1]
      by_cases g : nextOf l i < 0
      · rw [if_pos g]
      · obtain ⟨j, hj1, hj2, hj3, hj4, hj5⟩ := next_facts l i (by omega) (by omega)
        rw [hj1, if_neg (by omega), if_neg (by omega), if_neg (by omega), if_pos (by omega), if_pos (by omega), if_pos (by omega), if_pos hj4, if_pos (by omega), map_at _ _ _ hj3, hj5, wid (x := (j : Int) - (i : Int)) (by omega) (by omega), if_pos rfl]
    have hgr := set_grow l i (by omega)
    refine Ev.step (fun k => ?_) hj
    rw [laws_FnUsed.l0, if_pos (by omega), if_pos (by omega), if_pos (by omega), map_at _ _ _ (by omega)]
    by_cases g : gapOf l i = 0
    · rw [if_pos g] at hgr
      rw [if_pos g, wid (x := ((SetOf.setL (l.take i)).length : Int) + 1) (by omega) (by omega), hgr, show (((SetOf.setL (l.take i)).length + 1 : Nat) : Int) = ((SetOf.setL (l.take i)).length : Int) + 1 by omega]
    · rw [if_neg g] at hgr
      rw [if_neg g, hgr, Nat.add_zero]
theorem FnUsed : laws_FnUsed.Pure := by
  intro l0 l1 _ _ u0 _ _ u1
  refine Ev.rounds (r := true) ?_
  unfold laws_FnUsed.f
  simp only [r8Long_is, Option.bind_some]
  by_cases hb : r8longOf l0 l1 = true
  · simp only [if_pos hb]; exact Ev.now _
  simp only [if_neg hb]
  obtain ⟨l, el, hl, hu⟩ := r8uses l0 u0
  refine Ev.bind el ?_
  have hsl := setL_len l
  have ea : impl_AddressesOf.f l = some (SetOf.setL l, true) := by
    unfold impl_AddressesOf.f
    rw [impl_uses, hu, Option.bind_some, if_pos rfl, impl_set _ (by omega), Option.bind_some]
  have ec : Ev (fun k => impl_CountsOf.f k l) ((SetOf.setL l).map (fun x => (cnt l x : Int)), true) := by
    unfold impl_CountsOf.f
    simp only [impl_uses, Option.bind_some, if_pos hu, impl_set l (by omega)]
    exact impl_cs_l l (SetOf.setL l) (by omega) (by omega) _ 0 [] rfl (by omega) (by simp)
  have eg : Ev (fun k => impl_GapsOf.f k l) ((List.range' 0 l.length).map (gapOf l), true) := by
    have := impl_gaps l
    unfold gapsAns at this
    rw [if_pos hu] at this
    exact this
  have en : Ev (fun k => impl_NextUses.f k l) ((List.range' 0 l.length).map (nextOf l), true) := by
    unfold impl_NextUses.f
    simp only [impl_uses, Option.bind_some, if_pos hu]
    exact impl_all l (by omega) l.length 0 [] (by omega) (by omega) (by simp)
  simp only [ea, Option.bind_some]
  refine Ev.bind ec (Ev.bind eg (Ev.bind en ?_))
  have hgl : ((List.range' 0 l.length).map (gapOf l)).length = l.length := by rw [List.length_map, List.length_range']
  have hnl : ((List.range' 0 l.length).map (nextOf l)).length = l.length := by rw [List.length_map, List.length_range']
  have hml : ((SetOf.setL l).map (fun x => (cnt l x : Int))).length = (SetOf.setL l).length := List.length_map ..
  simp only [if_true, hgl, hnl, hml]
  have ht : Ev (fun k => laws_r8Sum.f k ((SetOf.setL l).map (fun x => (cnt l x : Int)))) (sm ((SetOf.setL l).map (fun x => (cnt l x : Int)))) := by
    refine r8sum _ (by omega) (fun x hx => ?_)
    obtain ⟨y, hy, rfl⟩ := List.mem_map.1 hx
    have hcl := cnt_le l y
    generalize cnt l y = c at hcl ⊢
    omega
  rw [cnt_sum (SetOf.setL l) (setL_ss l) l (fun x hx => (setL_mem l x).2 hx)] at ht
  refine Ev.bind ht ?_
  rw [bne_self_eq_false]
  refine Ev.step (fun k => by rw [laws_FnUsed.j0, if_neg (by decide)]) ?_
  have := us_l0 l hu l.length 0 (by omega) (by omega)
  rw [List.take_zero, setL_nil] at this
  exact this

end Go.Proofs.Yteoacngaicchiaa.Pure
