/- Each phase has at most so many addresses, and with the first use of the next one it has one more. Conditions: those of the row alone. -/
import Derived.Test.YteoacngaicchiaaPFnPhasedx3
namespace Go.Proofs.Yteoacngaicchiaa.Pure
open Go.RowKit Go.Proofs.Yteoacngaicchiaa.PFnPhased Go.Proofs.YteoacngaicchiaaW.PrintWords Go.Proofs.YteoacngaicchiaaW.PrintLast Go.Proofs.YteoacngaicchiaaW.PrintMore
set_option linter.unusedVariables false
set_option linter.unusedSimpArgs false

theorem wid {x : Int} (h1 : -9223372036854775808 ≤ x) (h2 : x < 9223372036854775808) : wrap64 x = x := by unfold wrap64; omega
theorem i64_bd {x : Int} (h : (Lit.int .i64 x).wf = true) : -9223372036854775808 ≤ x ∧ x ≤ 9223372036854775807 := by
  simp only [Lit.wf, IntKind.min, IntKind.max, IntKind.signed, IntKind.bits, Bool.and_eq_true, decide_eq_true_eq, if_true] at h
  omega
/-- A loop's step, its answer known at once. -/
theorem ev_ret {α : Type} {g : Nat → Option α} {r : α} (h : ∀ k, g (k + 1) = some r) : Ev g r := Ev.step (f := fun _ => some r) h (Ev.now r)
theorem ev_all {α : Type} {g : Nat → Option α} {r : α} (h : ∀ k, g k = some r) : Ev g r := ⟨0, fun k _ => h k⟩

theorem getD_set (xs : List Int) (i j : Nat) (v : Int) (hi : i < xs.length) : (xs.set i v).getD j 0 = if i = j then v else xs.getD j 0 := by
  rw [List.getD_eq_getElem?_getD, List.getElem?_set]
  by_cases e : i = j
  · subst e; rw [if_pos rfl, if_pos hi, if_pos rfl]; rfl
  · rw [if_neg e, if_neg e, List.getD_eq_getElem?_getD]
theorem ext_getD {xs ys : List Int} (h : xs.length = ys.length) (he : ∀ j, j < xs.length → xs.getD j 0 = ys.getD j 0) : xs = ys := by
  apply List.ext_getElem h
  intro j h1 h2
  have := he j h1
  rwa [List.getD_eq_getElem?_getD, List.getD_eq_getElem?_getD, List.getElem?_eq_getElem h1, List.getElem?_eq_getElem h2] at this
theorem rd_nat (xs : List Int) (i : Nat) : rd xs (i : Int) = xs.getD i 0 := by unfold rd; rw [Int.toNat_natCast]
theorem rd_mem (xs : List Int) (i : Nat) (h : i < xs.length) : rd xs (i : Int) ∈ xs := by
  rw [rd_nat, List.getD_eq_getElem?_getD, List.getElem?_eq_getElem h]
  exact List.getElem_mem _
theorem take_snoc (xs : List Int) (i : Nat) (h : i < xs.length) : xs.take (i + 1) = xs.take i ++ [rd xs (i : Int)] := by
  rw [List.take_succ_eq_append_getElem h, rd_nat, List.getD_eq_getElem?_getD, List.getElem?_eq_getElem h]
  rfl
theorem drop_cons (xs : List Int) (i : Nat) (h : i < xs.length) : xs.drop i = rd xs (i : Int) :: xs.drop (i + 1) := by
  rw [List.drop_eq_getElem_cons h, rd_nat, List.getD_eq_getElem?_getD, List.getElem?_eq_getElem h]
  rfl

theorem u8_bd {x : Int} (h : (Lit.int .u8 x).wf = true) : 0 ≤ x ∧ x ≤ 255 := by
  simp [Lit.wf, IntKind.min, IntKind.max, IntKind.signed, IntKind.bits] at h
  exact h

/-! the source that draws -/
theorem and255 (a : Int) : 0 ≤ Go.bits .and .u64 a 255 ∧ Go.bits .and .u64 a 255 ≤ 255 := by
  have h : ((BitVec.ofInt 64 a) &&& (BitVec.ofInt 64 255)).toNat ≤ 255 := by
    rw [BitVec.toNat_and]
    exact Nat.and_le_right
  have e : Go.bits .and .u64 a 255 = IntKind.u64.wrap ((((BitVec.ofInt 64 a) &&& (BitVec.ofInt 64 255)).toNat : Nat) : Int) := rfl
  rw [e]
  generalize ((BitVec.ofInt 64 a) &&& (BitVec.ofInt 64 255)).toNat = n at h
  simp only [IntKind.wrap, IntKind.bits, IntKind.signed]
  simp
  omega
theorem next_ok (l : List Int) (u : ∀ x ∈ l, (Lit.int .u8 x).wf = true) (at_ sd : Int) (h0 : 0 ≤ at_) (h1 : at_ ≤ 4611686018427387904) :
    ∃ t sd', spec_l00Src_next.f l at_ sd = some (t, at_ + 1, sd') ∧ 0 ≤ t ∧ t ≤ 255 := by
  have hw : wrap64 (at_ + 1) = at_ + 1 := wid (by omega) (by omega)
  unfold spec_l00Src_next.f
  rw [hw]
  by_cases h : at_ < (l.length : Int)
  · obtain ⟨i, rfl⟩ := Int.eq_ofNat_of_zero_le h0
    have hb := u8_bd (u _ (rd_mem l i (by omega)))
    rw [if_pos h, if_pos h0, if_pos (by omega), wid (x := rd l (i : Int)) (by omega) (by omega)]
    exact ⟨_, _, rfl, hb⟩
  · rw [if_neg h, if_neg (by omega)]
    refine ⟨_, _, rfl, ?_⟩
    have := and255 ((IntKind.u64.wrap (IntKind.u64.wrap (IntKind.u64.wrap (sd * 6364136223846793005)) + 1442695040888963407)) / 1099511627776)
    rw [wid (by omega) (by omega)]
    exact this
theorem pick_ok (l : List Int) (u : ∀ x ∈ l, (Lit.int .u8 x).wf = true) (at_ sd n : Int) (h0 : 0 ≤ at_) (h1 : at_ ≤ 2305843009213693952) (hn : 1 ≤ n) (hn2 : n ≤ 65536) :
    ∃ t at' sd', spec_l00Src_pick.f l at_ sd n = some (t, at', sd') ∧ 0 ≤ t ∧ t < n ∧ at_ ≤ at' ∧ at' ≤ at_ + 2 := by
  unfold spec_l00Src_pick.f
  by_cases h : n ≤ 1
  · rw [if_pos h]
    exact ⟨0, at_, sd, rfl, by omega, by omega, by omega, by omega⟩
  · rw [if_neg h]
    obtain ⟨t, sd1, e1, a1, b1⟩ := next_ok l u at_ sd h0 (by omega)
    rw [e1, Option.bind_some]
    by_cases g : n > 200
    · rw [if_pos g]
      obtain ⟨t2, sd2, e2, a2, b2⟩ := next_ok l u (at_ + 1) sd1 (by omega) (by omega)
      show ∃ t at' sd', (spec_l00Src_next.f l (at_ + 1) sd1).bind _ = some (t, at', sd') ∧ _
      rw [e2, Option.bind_some, if_neg (by omega)]
      have w1 : wrap64 (t * 256) = t * 256 := wid (by omega) (by omega)
      have w2 : wrap64 (t * 256 + t2) = t * 256 + t2 := wid (by omega) (by omega)
      refine ⟨_, _, _, rfl, ?_, ?_, (show at_ ≤ at_ + 1 + 1 by omega), (show at_ + 1 + 1 ≤ at_ + 2 by omega)⟩
      · show 0 ≤ Int.tmod (wrap64 (wrap64 (t * 256) + t2)) n
        rw [w1, w2, Int.tmod_eq_emod_of_nonneg (by omega)]; exact Int.emod_nonneg _ (by omega)
      · show Int.tmod (wrap64 (wrap64 (t * 256) + t2)) n < n
        rw [w1, w2, Int.tmod_eq_emod_of_nonneg (by omega)]; exact Int.emod_lt_of_pos _ (by omega)
    · rw [if_neg g, if_neg (by omega)]
      refine ⟨_, _, _, rfl, ?_, ?_, (show at_ ≤ at_ + 1 by omega), (show at_ + 1 ≤ at_ + 2 by omega)⟩
      · show 0 ≤ Int.tmod t n
        rw [Int.tmod_eq_emod_of_nonneg a1]; exact Int.emod_nonneg _ (by omega)
      · show Int.tmod t n < n
        rw [Int.tmod_eq_emod_of_nonneg a1]; exact Int.emod_lt_of_pos _ (by omega)
theorem among_ok (l : List Int) (u : ∀ x ∈ l, (Lit.int .u8 x).wf = true) (at_ sd : Int) (xs : List Int) (h0 : 0 ≤ at_) (h1 : at_ ≤ 2305843009213693952) (hn : 1 ≤ xs.length) (hn2 : xs.length ≤ 65536) :
    ∃ t at' sd', spec_l00Src_among.f l at_ sd xs = some (t, at', sd') ∧ t ∈ xs ∧ at_ ≤ at' ∧ at' ≤ at_ + 2 := by
  unfold spec_l00Src_among.f
  obtain ⟨t, at1, sd1, e, a, b, c, d⟩ := pick_ok l u at_ sd (xs.length : Int) h0 h1 (by omega) (by omega)
  rw [e, Option.bind_some]
  obtain ⟨i, rfl⟩ := Int.eq_ofNat_of_zero_le a
  rw [if_pos a, if_pos b]
  exact ⟨_, _, _, rfl, rd_mem xs i (by omega), c, d⟩

/-- What both ask of uses. -/
def usesOk (l : List Int) : Bool := decide (l.length ≤ 60) && l.all (fun x => decide (0 ≤ x) && decide (x ≤ 63))
theorem usesOk_len {l : List Int} (h : usesOk l = true) : l.length ≤ 60 := by
  unfold usesOk at h
  rw [Bool.and_eq_true] at h
  exact of_decide_eq_true h.1
theorem usesOk_mem {l : List Int} (h : usesOk l = true) {x : Int} (hx : x ∈ l) : 0 ≤ x ∧ x ≤ 63 := by
  unfold usesOk at h
  rw [Bool.and_eq_true, List.all_eq_true] at h
  have := h.2 x hx
  rw [Bool.and_eq_true] at this
  exact ⟨of_decide_eq_true this.1, of_decide_eq_true this.2⟩
theorem impl_uses (l : List Int) : impl_ValidUses.f l = some (usesOk l) := by
  unfold impl_ValidUses.f usesOk impl_allIn.f
  by_cases h : l.length ≤ 60
  · rw [if_pos (by omega), decide_eq_true h, Bool.true_and, Option.bind_some]
  · rw [if_neg (by omega), decide_eq_false h, Bool.false_and]

/-- The uses that are drawn are uses. -/
theorem few_l1 (l : List Int) (u : ∀ x ∈ l, (Lit.int .u8 x).wf = true) (base : List Int) (hb : 1 ≤ base.length) (hb2 : base.length ≤ 65536) (n : Nat) : ∀ (acc : List Int) (at_ sd : Int), 0 ≤ at_ → at_ + 2 * n ≤ 2000000 → acc.length + n ≤ 100000 →
    ∃ ys at' sd', Ev (fun k => spec_l02DrawFew.l1 k (n : Int) base acc l at_ sd) (acc ++ ys, at', sd') ∧ ys.length = n ∧ (∀ y ∈ ys, y ∈ base) ∧ at_ ≤ at' ∧ at' ≤ at_ + 2 * n := by
  induction n with
  | zero =>
    intro acc at_ sd h0 h1 ha
    exact ⟨[], at_, sd, ev_ret (fun k => by rw [spec_l02DrawFew.l1, if_neg (by omega), List.append_nil]), rfl, fun y hy => absurd hy (by simp), by omega, by omega⟩
  | succ n ih =>
    intro acc at_ sd h0 h1 ha
    obtain ⟨t, at1, sd1, e, hm, c, d⟩ := among_ok l u at_ sd base h0 (by omega) hb hb2
    obtain ⟨ys, at2, sd2, e2, hl, hy, c2, d2⟩ := ih (acc ++ [t]) at1 sd1 (by omega) (by omega) (by simp; omega)
    refine ⟨t :: ys, at2, sd2, ?_, by simp [hl], fun y h => ?_, by omega, by omega⟩
    · rw [List.append_cons]
      refine Ev.step (fun k => ?_) e2
      rw [spec_l02DrawFew.l1, if_pos (by omega), e, Option.bind_some, if_pos (by omega), wid (by omega) (by omega), show ((n + 1 : Nat) : Int) - 1 = (n : Int) by omega]
    · rcases List.mem_cons.1 h with rfl | h
      · exact hm
      · exact hy y h
theorem few_l0 (l : List Int) (u : ∀ x ∈ l, (Lit.int .u8 x).wf = true) (m : Nat) (kinds : Int) (hk : 1 ≤ kinds) (hk2 : kinds ≤ 1000) (d : Nat) : ∀ (i : Int) (acc : List Int) (at_ sd : Int), 0 ≤ i → kinds - i = d → (acc.length : Int) = i → (∀ x ∈ acc, 0 ≤ x ∧ x ≤ 63) → 0 ≤ at_ → at_ + 2 * d + 2 * m ≤ 2000000 → m ≤ 10000 →
    ∃ ys at' sd', Ev (fun k => spec_l02DrawFew.l0 k (m : Int) kinds acc i l at_ sd) (ys, at', sd') ∧ ys.length = m ∧ (∀ y ∈ ys, 0 ≤ y ∧ y ≤ 63) ∧ at_ ≤ at' ∧ at' ≤ at_ + 2 * d + 2 * m := by
  induction d with
  | zero =>
    intro i acc at_ sd hi hd hl hx h0 h1 hm
    obtain ⟨ys, at1, sd1, e, h2, h3, h4, h5⟩ := few_l1 l u acc (by omega) (by omega) m [] at_ sd h0 (by omega) (by simp; omega)
    refine ⟨ys, at1, sd1, ?_, h2, fun y hy => hx y (h3 y hy), h4, by omega⟩
    rw [List.nil_append] at e
    exact Ev.step (fun k => by rw [spec_l02DrawFew.l0, if_neg (by omega)]) e
  | succ d ih =>
    intro i acc at_ sd hi hd hl hx h0 h1 hm
    obtain ⟨t, at1, sd1, e, a, b, c, dd⟩ := pick_ok l u at_ sd 64 h0 (by omega) (by omega) (by omega)
    obtain ⟨ys, at2, sd2, e2, h2, h3, h4, h5⟩ := ih (i + 1) (acc ++ [t]) at1 sd1 (by omega) (by omega) (by simp; omega) (fun x h => by
      rcases List.mem_append.1 h with h | h
      · exact hx x h
      · rw [List.mem_singleton.1 h]; omega) (by omega) (by omega) hm
    refine ⟨ys, at2, sd2, ?_, h2, h3, by omega, by omega⟩
    refine Ev.step (fun k => ?_) e2
    rw [spec_l02DrawFew.l0, if_pos (by omega), e, Option.bind_some, if_pos (by omega), wid (by omega) (by omega)]
theorem usesOk_of {ys : List Int} (h : ys.length ≤ 60) (hy : ∀ y ∈ ys, 0 ≤ y ∧ y ≤ 63) : usesOk ys = true := by
  unfold usesOk
  rw [decide_eq_true h, Bool.true_and, List.all_eq_true]
  intro y hm
  have := hy y hm
  rw [decide_eq_true this.1, decide_eq_true this.2]
  rfl
theorem r8uses (l : List Int) (u : ∀ x ∈ l, (Lit.int .u8 x).wf = true) : ∃ ys, Ev (fun k => spec_R8Uses.f k l) ys ∧ ys.length ≤ 13 ∧ usesOk ys = true := by
  unfold spec_R8Uses.f spec_l00From.f
  simp only [Option.bind_some]
  obtain ⟨t, at1, sd1, e1, a1, b1, c1, d1⟩ := pick_ok l u 0 0 14 (by omega) (by omega) (by omega) (by omega)
  obtain ⟨t2, at2, sd2, e2, a2, b2, c2, d2⟩ := pick_ok l u at1 sd1 5 (by omega) (by omega) (by omega) (by omega)
  simp only [e1, e2, Option.bind_some]
  rw [wid (by omega) (by omega)]
  obtain ⟨m, rfl⟩ := Int.eq_ofNat_of_zero_le a1
  obtain ⟨ys, at3, sd3, e3, h2, h3, _⟩ := few_l0 l u m (1 + t2) (by omega) (by omega) (1 + t2).toNat 0 [] at2 sd2 (by omega) (by omega) rfl (fun x h => absurd h (by simp)) (by omega) (by omega) (by omega)
  refine ⟨ys, ?_, by omega, usesOk_of (by omega) h3⟩
  unfold spec_l02DrawFew.f
  exact Ev.bind (f := fun _ t => some t.1) e3 (Ev.now _)
def r8longOf (l0 l1 : List Int) : Bool := decide ((l0.length : Int) > 48 ∨ (l1.length : Int) > 48)
theorem r8Long_is (l0 l1 : List Int) : laws_r8Long.f l0 l1 = some (r8longOf l0 l1) := by
  unfold laws_r8Long.f r8longOf
  by_cases h : (l0.length : Int) > 48
  · rw [if_pos h, decide_eq_true (Or.inl h)]
  · rw [if_neg h]
    by_cases g : (l1.length : Int) > 48
    · rw [decide_eq_true g, decide_eq_true (Or.inr g)]
    · rw [decide_eq_false g, decide_eq_false (by omega)]

theorem r8at (l : List Int) (u : ∀ x ∈ l, (Lit.int .u8 x).wf = true) (i n : Int) (hi : 0 ≤ i) (hn : 1 ≤ n) : ∃ a, laws_r8At.f l i n = some a ∧ 0 ≤ a ∧ a < n := by
  unfold laws_r8At.f
  by_cases h1 : n ≤ 1
  · exact ⟨0, by rw [if_pos h1], by omega, by omega⟩
  by_cases h2 : i ≥ (l.length : Int)
  · exact ⟨0, by rw [if_neg h1, if_pos h2], by omega, by omega⟩
  obtain ⟨j, rfl⟩ : ∃ j : Nat, i = (j : Int) := ⟨i.toNat, by omega⟩
  have hb := u8_bd (u _ (rd_mem l j (by omega)))
  have w : wrap64 (rd l (j : Int)) = rd l (j : Int) := wid (by omega) (by omega)
  refine ⟨Int.tmod (rd l (j : Int)) n, by rw [if_neg h1, if_neg h2, if_pos hi, if_pos (by omega), if_neg (by omega), w], ?_, ?_⟩
  · exact Int.tmod_nonneg _ (by omega)
  · exact Int.tmod_lt_of_pos _ (by omega)

/-! the set of a list: rising, each number once -/
def SS (l : List Int) : Prop := l.Pairwise (· < ·)
theorem ss_eq : ∀ (a b : List Int), SS a → SS b → (∀ x, x ∈ a ↔ x ∈ b) → a = b
  | [], [], _, _, _ => rfl
  | [], y :: b, _, _, h => by have := (h y).2 (List.mem_cons_self ..); cases this
  | x :: a, [], _, _, h => by have := (h x).1 (List.mem_cons_self ..); cases this
  | x :: a, y :: b, ha, hb, h => by
    have ha' := List.pairwise_cons.1 ha
    have hb' := List.pairwise_cons.1 hb
    have e : x = y := by
      rcases List.mem_cons.1 ((h x).1 (List.mem_cons_self ..)) with e | e
      · exact e
      · rcases List.mem_cons.1 ((h y).2 (List.mem_cons_self ..)) with e2 | e2
        · exact e2.symm
        · have h1 := hb'.1 x e
          have h2 := ha'.1 y e2
          omega
    subst e
    rw [ss_eq a b ha'.2 hb'.2 (fun z => ⟨fun hz => ?_, fun hz => ?_⟩)]
    · rcases List.mem_cons.1 ((h z).1 (List.mem_cons_of_mem _ hz)) with e | e
      · have := ha'.1 z hz; omega
      · exact e
    · rcases List.mem_cons.1 ((h z).2 (List.mem_cons_of_mem _ hz)) with e | e
      · have := hb'.1 z hz; omega
      · exact e
theorem compact_mem (ts : List Int) (y : Int) : y ∈ Lib.compact ts ↔ y ∈ ts := by
  unfold Lib.compact Lib.compactUpTo
  rw [List.mem_map]
  constructor
  · rintro ⟨i, hi, rfl⟩
    rw [List.mem_filter, List.mem_range] at hi
    have : ts.toArray[i]! = ts[i]'hi.1 := by simp [hi.1]
    rw [this]
    exact List.getElem_mem _
  · intro hy
    obtain ⟨i, hi, rfl⟩ := List.getElem_of_mem hy
    have key : ∀ (n j : Nat), j ≤ n → (hj : j < ts.length) → ∃ q, q ∈ (List.range ts.length).filter (Lib.keeps ts.toArray) ∧ ts.toArray[q]! = ts[j]'hj := by
      intro n
      induction n with
      | zero =>
        intro j h0 hj
        have : j = 0 := by omega
        subst this
        exact ⟨0, by rw [List.mem_filter, List.mem_range]; exact ⟨hj, Lib.keeps_lt_one _ 0 (by omega)⟩, by simp [hj]⟩
      | succ n ih =>
        intro j h0 hj
        by_cases h : j ≤ n
        · exact ih j h hj
        · have e : j = n + 1 := by omega
          subst e
          by_cases g : ts.toArray[n + 1]! = ts.toArray[n]!
          · obtain ⟨q, hq, he⟩ := ih n (Nat.le_refl _) (by omega)
            refine ⟨q, hq, he.trans ?_⟩
            have e1 : ts.toArray[n + 1]! = ts[n + 1]'hj := by simp [hj]
            have e2 : ts.toArray[n]! = ts[n]'(by omega) := by simp [show n < ts.length by omega]
            rw [← e1, ← e2, g]
          · exact ⟨n + 1, by rw [List.mem_filter, List.mem_range]; exact ⟨hj, Lib.keeps_pos g⟩, by simp [hj]⟩
    exact key i i (Nat.le_refl _) hi
theorem compact_ss (ts : List Int) (h : ts.Pairwise (· ≤ ·)) : SS (Lib.compact ts) := by
  unfold SS Lib.compact Lib.compactUpTo
  rw [List.pairwise_map]
  refine List.Pairwise.imp_of_mem ?_ ((List.pairwise_lt_range (n := ts.length)).filter (Lib.keeps ts.toArray))
  intro i j hi hj hij
  rw [List.mem_filter, List.mem_range] at hi hj
  have hk := hj.2
  unfold Lib.keeps at hk
  have hk := of_decide_eq_true hk
  rcases hk with hk | hk
  · omega
  · rw [List.pairwise_iff_getElem] at h
    have e1 : ts.toArray[i]! = ts[i]'hi.1 := by simp [hi.1]
    have e2 : ts.toArray[j]! = ts[j]'hj.1 := by simp [hj.1]
    have e3 : ts.toArray[j - 1]! = ts[j - 1]'(by omega) := by simp [show j - 1 < ts.length by omega]
    rw [e2, e3] at hk
    rw [e1, e2]
    have l1 : ts[j - 1]'(by omega) ≤ ts[j]'hj.1 := h (j - 1) j (by omega) hj.1 (by omega)
    have l2 : ts[i]'hi.1 ≤ ts[j - 1]'(by omega) := by
      by_cases e : i = j - 1
      · subst e; exact Int.le_refl _
      · exact h i (j - 1) hi.1 (by omega) (by omega)
    omega
theorem setL_ss (l : List Int) : SS (SetOf.setL l) := by
  unfold SetOf.setL
  refine compact_ss _ ?_
  have := List.pairwise_mergeSort (le := fun x y : Int => decide (x ≤ y)) (fun a b c h1 h2 => by simp at h1 h2 ⊢; omega) (fun a b => by simp; omega) l
  exact this.imp (fun h => by simpa using h)
theorem setL_mem (l : List Int) (y : Int) : y ∈ SetOf.setL l ↔ y ∈ l := by
  unfold SetOf.setL
  rw [compact_mem, List.mem_mergeSort]
theorem setL_len (l : List Int) : (SetOf.setL l).length ≤ l.length := by
  unfold SetOf.setL Lib.compact Lib.compactUpTo
  rw [List.length_map]
  refine Nat.le_trans (List.length_filter_le _ _) ?_
  rw [List.length_range, List.length_mergeSort]
  exact Nat.le_refl _
def ins (n : Int) : List Int → List Int
  | [] => [n]
  | x :: r => if x > n then n :: x :: r else if x = n then x :: r else x :: ins n r
theorem ins_mem (n y : Int) : ∀ l, y ∈ ins n l ↔ y = n ∨ y ∈ l
  | [] => by simp [ins]
  | x :: r => by
    rw [ins]
    split
    · simp
    · split
      · rename_i h; subst h; simp
      · rw [List.mem_cons, ins_mem n y r, List.mem_cons]
        constructor
        · rintro (h | h | h)
          · exact .inr (.inl h)
          · exact .inl h
          · exact .inr (.inr h)
        · rintro (h | h | h)
          · exact .inr (.inl h)
          · exact .inl h
          · exact .inr (.inr h)
theorem ins_ss (n : Int) : ∀ l, SS l → SS (ins n l)
  | [], _ => List.pairwise_singleton _ _
  | x :: r, h => by
    have h' := List.pairwise_cons.1 h
    rw [ins]
    split
    · refine List.pairwise_cons.2 ⟨fun y hy => ?_, h⟩
      rcases List.mem_cons.1 hy with e | e
      · omega
      · have := h'.1 y e; omega
    · split
      · exact h
      · refine List.pairwise_cons.2 ⟨fun y hy => ?_, ins_ss n r h'.2⟩
        rcases (ins_mem n y r).1 hy with e | e
        · omega
        · exact h'.1 y e
theorem ins_len (n : Int) : ∀ l, (ins n l).length ≤ l.length + 1
  | [] => by simp [ins]
  | x :: r => by
    rw [ins]
    split
    · simp
    · split
      · simp
      · have := ins_len n r; simp; omega
theorem ins_setL (n : Int) (l : List Int) : ins n (SetOf.setL l) = SetOf.setL (l ++ [n]) := by
  refine ss_eq _ _ (ins_ss _ _ (setL_ss _)) (setL_ss _) (fun x => ?_)
  rw [ins_mem, setL_mem, setL_mem, List.mem_append, List.mem_singleton]
  exact Or.comm
theorem setL_nil : SetOf.setL [] = [] := List.eq_nil_of_length_eq_zero (by have := setL_len []; simpa using this)
theorem setL_one (n : Int) : SetOf.setL [n] = [n] := by
  have := ins_setL n []
  rw [setL_nil, List.nil_append] at this
  exact this.symm
theorem impl_set (l : List Int) (h : l.length ≤ 1048576) : impl_setOf.f l = some (SetOf.setL l) := by
  unfold impl_setOf.f
  rw [if_pos h]

theorem impl_range (a b c : Int) : impl_inRange.f a b c = some (decide (b ≤ a) && decide (a ≤ c)) := by
  unfold impl_inRange.f
  by_cases h : b ≤ a
  · rw [if_pos h, decide_eq_true h, Bool.true_and]
  · rw [if_neg h, decide_eq_false h, Bool.false_and]

/-- The phases from place i on; s: the list from the phase's start to i. -/
def phs (m : Int) (l : List Int) : Nat → Nat → Nat → List Int
  | 0, _, _ => []
  | d + 1, i, s => if i = 0 ∨ ((SetOf.setL ((l.take (i + 1)).drop s)).length : Int) > m then (i : Int) :: phs m l d (i + 1) i else phs m l d (i + 1) s
theorem phs_len (m : Int) (l : List Int) : ∀ (d i s : Nat), (phs m l d i s).length ≤ d
  | 0, _, _ => by simp [phs]
  | d + 1, i, s => by
    rw [phs]
    split
    · have := phs_len m l d (i + 1) i; simp; omega
    · have := phs_len m l d (i + 1) s; omega
theorem seg_snoc (l : List Int) (i s : Nat) (hi : i < l.length) (hs : s ≤ i) : (l.take (i + 1)).drop s = (l.take i).drop s ++ [rd l (i : Int)] := by
  rw [take_snoc l i hi, List.drop_append_of_le_length (by rw [List.length_take]; omega)]
theorem seg_one (l : List Int) (i : Nat) (hi : i < l.length) : (l.take (i + 1)).drop i = [rd l (i : Int)] := by
  rw [seg_snoc l i i hi (Nat.le_refl _), List.drop_eq_nil_of_le (by rw [List.length_take]; omega), List.nil_append]
theorem seg_len (l : List Int) (i s : Nat) : ((l.take i).drop s).length ≤ l.length := by rw [List.length_drop, List.length_take]; omega
theorem impl_ph_l (m : Int) (l : List Int) (hl : l.length ≤ 60) (d : Nat) : ∀ (i s : Nat) (acc : List Int), l.length - i = d → i ≤ l.length → acc.length ≤ i → s ≤ i → (acc = [] ↔ i = 0) → (0 < i → rd acc ((acc.length : Int) - 1) = (s : Int)) →
    Ev (fun k => impl_PhasesOf.l0 k l m acc (l.length : Int) (i : Int)) (acc ++ phs m l d i s, true) := by
  induction d with
  | zero =>
    intro i s acc hd hi ha hs h0 hl
    rw [phs, List.append_nil]
    exact ev_ret (fun k => by rw [impl_PhasesOf.l0, if_neg (by omega)])
  | succ d ih =>
    intro i s acc hd hi ha hs h0 hla
    have w1 : wrap64 ((i : Int) + 1) = ((i + 1 : Nat) : Int) := by rw [wid (by omega) (by omega)]; omega
    have hlast : rd (acc ++ [(i : Int)]) (((acc ++ [(i : Int)]).length : Int) - 1) = (i : Int) := by
      have : (((acc ++ [(i : Int)]).length : Int) - 1) = (acc.length : Int) := by simp
      rw [this, rd_nat]
      simp
    have h1 := ih (i + 1) i (acc ++ [(i : Int)]) (by omega) (by omega) (by simp; omega) (by omega) (by simp) (fun _ => hlast)
    rw [← List.append_cons] at h1
    rw [phs]
    by_cases hi0 : i = 0
    · have hac := h0.2 hi0
      rw [if_pos (.inl hi0)]
      refine Ev.step (fun k => ?_) h1
      rw [impl_PhasesOf.l0, if_pos (by omega), if_pos (by rw [hac]; rfl), if_pos (by omega), w1]
    · have hac : acc ≠ [] := fun e => hi0 (h0.1 e)
      have hpos : 0 < acc.length := List.length_pos_iff.2 hac
      have hlst := hla (by omega)
      have w2 : wrap64 ((acc.length : Int) - 1) = (acc.length : Int) - 1 := wid (by omega) (by omega)
      have h2 := ih (i + 1) s acc (by omega) (by omega) (by omega) (by omega) ⟨fun e => absurd e hac, fun e => by omega⟩ (fun _ => hlst)
      have e0 : ∀ k, impl_PhasesOf.l0 (k + 1) l m acc (l.length : Int) (i : Int) = if ((SetOf.setL ((l.take (i + 1)).drop s)).length : Int) > m then impl_PhasesOf.l0 k l m (acc ++ [(i : Int)]) (l.length : Int) ((i + 1 : Nat) : Int) else impl_PhasesOf.l0 k l m acc (l.length : Int) ((i + 1 : Nat) : Int) := by
        intro k
        have hsg := seg_len l (i + 1) s
        rw [impl_PhasesOf.l0, if_pos (by omega), if_neg (by omega), w2, if_pos (by omega), if_pos (by omega), hlst, if_pos (by omega), w1, if_pos (by omega), if_pos (by omega), Int.toNat_natCast, Int.toNat_natCast, impl_set _ (by omega), Option.bind_some]
        unfold impl_length_int64.f
        rw [Option.bind_some, if_pos (show acc.length < 17592186044416 by omega)]
      by_cases g : ((SetOf.setL ((l.take (i + 1)).drop s)).length : Int) > m
      · rw [if_pos (.inr g)]
        exact Ev.step (fun k => by rw [e0, if_pos g]) h1
      · rw [if_neg (fun q => q.elim hi0 g)]
        exact Ev.step (fun k => by rw [e0, if_neg g]) h2

theorem usesOk_seg {l : List Int} (h : usesOk l = true) (a b : Nat) : usesOk ((l.take b).drop a) = true := by
  have hl := usesOk_len h
  have hs := seg_len l b a
  exact usesOk_of (by omega) (fun y hy => usesOk_mem h (List.mem_of_mem_take (List.mem_of_mem_drop hy)))
theorem addrs {l : List Int} (h : usesOk l = true) (a b : Nat) : impl_AddressesOf.f ((l.take b).drop a) = some (SetOf.setL ((l.take b).drop a), true) := by
  have hl := usesOk_len h
  have hs := seg_len l b a
  unfold impl_AddressesOf.f
  rw [impl_uses, usesOk_seg h a b, Option.bind_some, if_pos rfl, impl_set _ (by omega), Option.bind_some]
def Good (m : Int) (l : List Int) : Nat → List Int → Prop
  | s, [] => s < l.length ∧ ((SetOf.setL ((l.take l.length).drop s)).length : Int) ≤ m
  | s, e :: r => ∃ n : Nat, e = (n : Int) ∧ s < n ∧ n < l.length ∧ ((SetOf.setL ((l.take n).drop s)).length : Int) ≤ m ∧ ((SetOf.setL ((l.take (n + 1)).drop s)).length : Int) = m + 1 ∧ Good m l n r
theorem good_phs (m : Int) (l : List Int) (hm : 1 ≤ m) (d : Nat) : ∀ (i s : Nat), l.length - i = d → 0 < i → i ≤ l.length → s < i → ((SetOf.setL ((l.take i).drop s)).length : Int) ≤ m → Good m l s (phs m l d i s) := by
  induction d with
  | zero =>
    intro i s hd h0 hi hs hc
    have e : i = l.length := by omega
    subst e
    exact ⟨hs, hc⟩
  | succ d ih =>
    intro i s hd h0 hi hs hc
    have e1 : SetOf.setL ((l.take (i + 1)).drop s) = ins (rd l (i : Int)) (SetOf.setL ((l.take i).drop s)) := by rw [ins_setL, ← seg_snoc l i s (by omega) (by omega)]
    have hle := ins_len (rd l (i : Int)) (SetOf.setL ((l.take i).drop s))
    rw [← e1] at hle
    rw [phs]
    by_cases g : ((SetOf.setL ((l.take (i + 1)).drop s)).length : Int) > m
    · rw [if_pos (.inr g)]
      refine ⟨i, rfl, hs, by omega, hc, by omega, ih (i + 1) i (by omega) (by omega) (by omega) (by omega) ?_⟩
      rw [seg_one l i (by omega), setL_one]
      show ((1 : Nat) : Int) ≤ m
      omega
    · rw [if_neg (fun q => q.elim (by omega) g)]
      exact ih (i + 1) s (by omega) (by omega) (by omega) (by omega) (by omega)
theorem ph_round (l B : List Int) (m : Int) (s e q : Nat) (hu : usesOk l = true) (h1 : 1 ≤ m) (h2 : m ≤ 6) (hB : B.length ≤ 60) (hq : q < B.length) (hs : rd B (q : Int) = (s : Int)) (he : s < e) (hel : e ≤ l.length)
    (c1 : ((SetOf.setL ((l.take e).drop s)).length : Int) ≤ m) (c2 : e < l.length → ((SetOf.setL ((l.take (e + 1)).drop s)).length : Int) = m + 1)
    (h : Ev (fun k => laws_FnPhased.l0 k l m B ((q + 1 : Nat) : Int)) true) : Ev (fun k => laws_FnPhased.j2 k l m B (q : Int) (e : Int)) true := by
  have hn := usesOk_len hu
  have w1 : wrap64 ((q : Int) + 1) = ((q + 1 : Nat) : Int) := by rw [wid (by omega) (by omega)]; omega
  have w2 : wrap64 ((e : Int) + 1) = ((e + 1 : Nat) : Int) := by rw [wid (by omega) (by omega)]; omega
  have w3 : wrap64 (m + 1) = m + 1 := wid (by omega) (by omega)
  refine Ev.step (fun k => by rw [laws_FnPhased.j2, if_pos (by omega), if_pos (by omega), hs, if_neg (by omega), if_neg (by omega), decide_eq_false (by omega)]) ?_
  refine Ev.step (fun k => by rw [laws_FnPhased.j3, if_neg (by decide), if_pos (by omega), if_pos (by omega), hs, if_pos (by omega), if_pos (by omega), if_pos (by omega), Int.toNat_natCast, Int.toNat_natCast, addrs hu, Option.bind_some, if_pos rfl, decide_eq_false (show ¬ ((SetOf.setL ((l.take e).drop s)).length : Int) > m by omega)]) ?_
  by_cases g : e = l.length
  · refine Ev.step (fun k => ?_) h
    rw [laws_FnPhased.j4, if_neg (by decide), if_pos (by omega), w1]
  · have hc2 := c2 (by omega)
    refine Ev.step (fun k => ?_) h
    rw [laws_FnPhased.j4, if_neg (by decide), if_neg (by omega), if_pos (by omega), if_pos (by omega), hs, if_pos (by omega), w2, if_pos (by omega), if_pos (by omega), Int.toNat_natCast, Int.toNat_natCast, addrs hu, Option.bind_some, if_pos rfl, w3, if_pos hc2, w1]
theorem ph_loop (l B : List Int) (m : Int) (hu : usesOk l = true) (h1 : 1 ≤ m) (h2 : m ≤ 6) (hB : B.length ≤ 60) : ∀ (bs pre : List Int) (s : Nat), B = pre ++ (s : Int) :: bs → Good m l s bs → Ev (fun k => laws_FnPhased.l0 k l m B (pre.length : Int)) true := by
  intro bs
  induction bs with
  | nil =>
    intro pre s hb hg
    have hlen : B.length = pre.length + 1 := by rw [hb]; simp
    have hs : rd B (pre.length : Int) = (s : Int) := by rw [hb, rd_nat]; simp
    obtain ⟨g1, g2⟩ := hg
    have hend : Ev (fun k => laws_FnPhased.l0 k l m B ((pre.length + 1 : Nat) : Int)) true := ev_ret (fun k => by rw [laws_FnPhased.l0, if_neg (by omega)])
    refine Ev.step (fun k => ?_) (ph_round l B m s l.length pre.length hu h1 h2 hB (by omega) hs g1 (Nat.le_refl _) g2 (fun h => absurd h (Nat.lt_irrefl _)) hend)
    rw [laws_FnPhased.l0, if_pos (by omega), wid (x := (pre.length : Int) + 1) (by omega) (by omega), if_neg (by omega)]
  | cons e bs ih =>
    intro pre s hb hg
    obtain ⟨n, rfl, g1, g2, g3, g4, g5⟩ := hg
    have hlen : B.length = pre.length + 2 + bs.length := by rw [hb]; simp; omega
    have hs : rd B (pre.length : Int) = (s : Int) := by rw [hb, rd_nat]; simp
    have hb2 : B = (pre ++ [(s : Int)]) ++ (n : Int) :: bs := by rw [hb]; simp
    have hs2 : rd B ((pre.length + 1 : Nat) : Int) = (n : Int) := by
      rw [hb2, rd_nat, List.getD_eq_getElem?_getD, List.getElem?_append_right (by simp)]
      simp
    have hx := ih (pre ++ [(s : Int)]) n hb2 g5
    rw [List.length_append, List.length_singleton] at hx
    refine Ev.step (fun k => ?_) (ph_round l B m s n pre.length hu h1 h2 hB (by omega) hs g1 (by omega) g3 (fun _ => g4) hx)
    rw [laws_FnPhased.l0, if_pos (by omega), wid (x := (pre.length : Int) + 1) (by omega) (by omega), show (pre.length : Int) + 1 = ((pre.length + 1 : Nat) : Int) by omega, if_pos (by omega), if_pos (by omega), hs2]
theorem FnPhased : laws_FnPhased.Pure := by
  intro l0 l1 _ _ u0 _ _ u1
  refine Ev.rounds (r := true) ?_
  unfold laws_FnPhased.f
  simp only [r8Long_is, Option.bind_some]
  by_cases hb : r8longOf l0 l1 = true
  · simp only [if_pos hb]; exact Ev.now _
  simp only [if_neg hb]
  obtain ⟨l, el, hl, hu⟩ := r8uses l0 u0
  obtain ⟨a, ea, ha0, ha1⟩ := r8at l1 u1 0 6 (by omega) (by omega)
  refine Ev.bind el ?_
  simp only [ea, Option.bind_some]
  have w1 : wrap64 (1 + a) = 1 + a := wid (by omega) (by omega)
  simp only [w1]
  have ep : Ev (fun k => impl_PhasesOf.f k l (1 + a)) (phs (1 + a) l l.length 0 0, true) := by
    unfold impl_PhasesOf.f
    have g : (decide (1 ≤ 1 + a) && decide (1 + a ≤ 64)) = true := by rw [Bool.and_eq_true, decide_eq_true_eq, decide_eq_true_eq]; omega
    simp only [impl_uses, impl_range, Option.bind_some, if_pos hu, g, Bool.not_true]
    refine Ev.step (fun k => by rw [impl_PhasesOf.j0, if_neg (by decide)]) ?_
    exact impl_ph_l (1 + a) l (by omega) l.length 0 0 [] (by omega) (by omega) (by simp) (by omega) (by simp) (by omega)
  refine Ev.bind ep ?_
  have hpl := phs_len (1 + a) l l.length 0 0
  simp only [if_true]
  by_cases h0 : l.length = 0
  · have e1 : phs (1 + a) l l.length 0 0 = [] := List.eq_nil_of_length_eq_zero (by omega)
    have e2 : l = [] := List.eq_nil_of_length_eq_zero h0
    rw [e1, e2]
    simp only [List.length_nil, bne_self_eq_false, if_neg (show ¬ (false = true) by decide), if_neg (show ¬ (((0 : Nat) : Int) > 0) by omega)]
    refine Ev.step (fun k => by rw [laws_FnPhased.j0, if_neg (by decide)]) ?_
    exact ev_ret (fun k => by rw [laws_FnPhased.l0, if_neg (by simp)])
  · obtain ⟨n, hn⟩ : ∃ n, l.length = n + 1 := ⟨l.length - 1, by omega⟩
    have e1 : phs (1 + a) l l.length 0 0 = ((0 : Nat) : Int) :: phs (1 + a) l n 1 0 := by rw [hn, phs, if_pos (.inl rfl)]
    have hg : Good (1 + a) l 0 (phs (1 + a) l n 1 0) := by
      refine good_phs (1 + a) l (by omega) n 1 0 (by omega) (by omega) (by omega) (by omega) ?_
      have := setL_len ((l.take 1).drop 0)
      rw [List.length_drop, List.length_take] at this
      omega
    have hpl2 := phs_len (1 + a) l n 1 0
    have hx := ph_loop l (phs (1 + a) l l.length 0 0) (1 + a) hu (by omega) (by omega) (by omega) (phs (1 + a) l n 1 0) [] 0 e1 hg
    have hpos : 0 < (phs (1 + a) l l.length 0 0).length := by rw [e1]; simp
    have hz : rd (phs (1 + a) l l.length 0 0) 0 = 0 := by rw [e1]; rfl
    have t1 : (((phs (1 + a) l l.length 0 0).length : Int) == 0) = false := by simpa using (by omega : ¬ (phs (1 + a) l l.length 0 0).length = 0)
    have t2 : ((l.length : Int) == 0) = false := by simpa using h0
    simp only [t1, t2, bne_self_eq_false, if_neg (show ¬ (false = true) by decide), if_pos (show ((phs (1 + a) l l.length 0 0).length : Int) > 0 by omega), if_pos (show 0 < ((phs (1 + a) l l.length 0 0).length : Int) by omega), hz]
    refine Ev.step (fun k => by rw [laws_FnPhased.j0, if_neg (by decide)]) ?_
    exact hx

end Go.Proofs.Yteoacngaicchiaa.Pure
