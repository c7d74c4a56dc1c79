/- The program's MergeTraces returns what the reference's returns, for all lists, in new memory. Conditions: those of the row alone. -/
import Derived.Test.YtbdedpodbnhkfaaPFnExactMergeTracesy
namespace Go.Proofs.Ytbdedpodbnhkfaa.Pure
open Go.RowKit Go.Proofs.Ytbdedpodbnhkfaa.PFnExactMergeTraces Go.Proofs.YtbdedpodbnhkfaaW.PrintWords Go.Proofs.YtbdedpodbnhkfaaW.PrintLast Go.Proofs.YtbdedpodbnhkfaaW.PrintMore
set_option linter.unusedVariables false
set_option linter.unusedSimpArgs false

theorem wid {x : Int} (h1 : -9223372036854775808 ≤ x) (h2 : x < 9223372036854775808) : wrap64 x = x := by unfold wrap64; omega
theorem i64_bd {x : Int} (h : (Lit.int .i64 x).wf = true) : -9223372036854775808 ≤ x ∧ x ≤ 9223372036854775807 := by
  simp only [Lit.wf, IntKind.min, IntKind.max, IntKind.signed, IntKind.bits, Bool.and_eq_true, decide_eq_true_eq, if_true] at h
  omega
/-- A loop's step, its answer known at once. -/
theorem ev_ret {α : Type} {g : Nat → Option α} {r : α} (h : ∀ k, g (k + 1) = some r) : Ev g r := Ev.step (f := fun _ => some r) h (Ev.now r)
theorem ev_all {α : Type} {g : Nat → Option α} {r : α} (h : ∀ k, g k = some r) : Ev g r := ⟨0, fun k _ => h k⟩

theorem getD_set (xs : List Int) (i j : Nat) (v : Int) (hi : i < xs.length) : (xs.set i v).getD j 0 = if i = j then v else xs.getD j 0 := by
  rw [List.getD_eq_getElem?_getD, List.getElem?_set]
  by_cases e : i = j
  · subst e; rw [if_pos rfl, if_pos hi, if_pos rfl]; rfl
  · rw [if_neg e, if_neg e, List.getD_eq_getElem?_getD]
theorem ext_getD {xs ys : List Int} (h : xs.length = ys.length) (he : ∀ j, j < xs.length → xs.getD j 0 = ys.getD j 0) : xs = ys := by
  apply List.ext_getElem h
  intro j h1 h2
  have := he j h1
  rwa [List.getD_eq_getElem?_getD, List.getD_eq_getElem?_getD, List.getElem?_eq_getElem h1, List.getElem?_eq_getElem h2] at this
theorem rd_nat (xs : List Int) (i : Nat) : rd xs (i : Int) = xs.getD i 0 := by unfold rd; rw [Int.toNat_natCast]
theorem rd_mem (xs : List Int) (i : Nat) (h : i < xs.length) : rd xs (i : Int) ∈ xs := by
  rw [rd_nat, List.getD_eq_getElem?_getD, List.getElem?_eq_getElem h]
  exact List.getElem_mem _
theorem take_snoc (xs : List Int) (i : Nat) (h : i < xs.length) : xs.take (i + 1) = xs.take i ++ [rd xs (i : Int)] := by
  rw [List.take_succ_eq_append_getElem h, rd_nat, List.getD_eq_getElem?_getD, List.getElem?_eq_getElem h]
  rfl
theorem drop_cons (xs : List Int) (i : Nat) (h : i < xs.length) : xs.drop i = rd xs (i : Int) :: xs.drop (i + 1) := by
  rw [List.drop_eq_getElem_cons h, rd_nat, List.getD_eq_getElem?_getD, List.getElem?_eq_getElem h]
  rfl

theorem gset {α : Type} (d : α) (xs : List α) (i j : Nat) (v : α) (hi : i < xs.length) : (xs.set i v).getD j d = if i = j then v else xs.getD j d := by
  rw [List.getD_eq_getElem?_getD, List.getElem?_set]
  by_cases e : i = j
  · subst e; rw [if_pos rfl, if_pos hi, if_pos rfl]; rfl
  · rw [if_neg e, if_neg e, List.getD_eq_getElem?_getD]
theorem gext {α : Type} (d : α) {xs ys : List α} (h : xs.length = ys.length) (he : ∀ j, j < xs.length → xs.getD j d = ys.getD j d) : xs = ys := by
  apply List.ext_getElem h
  intro j h1 h2
  have := he j h1
  rwa [List.getD_eq_getElem?_getD, List.getD_eq_getElem?_getD, List.getElem?_eq_getElem h1, List.getElem?_eq_getElem h2] at this
theorem gmem {α : Type} (d : α) (xs : List α) (i : Nat) (h : i < xs.length) : xs.getD i d ∈ xs := by
  rw [List.getD_eq_getElem?_getD, List.getElem?_eq_getElem h]
  exact List.getElem_mem _
theorem gdrop {α : Type} (d : α) (xs : List α) (i : Nat) (h : i < xs.length) : xs.drop i = xs.getD i d :: xs.drop (i + 1) := by
  rw [List.drop_eq_getElem_cons h, List.getD_eq_getElem?_getD, List.getElem?_eq_getElem h]
  rfl
theorem gmap {α β : Type} (d : α) (e : β) (f : α → β) (xs : List α) (i : Nat) (h : i < xs.length) : (xs.map f).getD i e = f (xs.getD i d) := by
  rw [List.getD_eq_getElem?_getD, List.getD_eq_getElem?_getD, List.getElem?_map, List.getElem?_eq_getElem h]
  rfl

/-! accesses -/
theorem rdA (xs : List S32) (i : Nat) : rd_T32 xs (i : Int) = xs.getD i z32 := by unfold rd_T32; rw [Int.toNat_natCast]
theorem rdL (xs : List S81) (i : Nat) : rd_T81 xs (i : Int) = xs.getD i z81 := by unfold rd_T81; rw [Int.toNat_natCast]
/-- A law's access as the program has it. -/
def conv (x : S81) : S32 := ⟨x.f0, x.f1⟩
theorem toAcc_l (l : List S81) (hl : l.length ≤ 17592186044416) (d : Nat) : ∀ (i : Nat) (xs : List S32), xs.length = l.length → (∀ j, j < i → xs.getD j z32 = (l.map conv).getD j z32) → l.length - i = d → i ≤ l.length →
    Ev (fun k => laws_toAccessS.l0 k l xs (i : Int)) (l.map conv) := by
  induction d with
  | zero =>
    intro i xs hx h hd hi
    have e : xs = l.map conv := gext z32 (by rw [hx, List.length_map]) (fun j hj => h j (by omega))
    rw [← e]
    exact ev_ret (fun k => by rw [laws_toAccessS.l0, if_neg (by omega)])
  | succ d ih =>
    intro i xs hx h hd hi
    refine Ev.step (fun k => ?_) (ih (i + 1) (xs.set i (conv (l.getD i z81))) (by rw [List.length_set, hx]) (fun j hj => ?_) (by omega) (by omega))
    · rw [laws_toAccessS.l0, if_pos (by omega), if_pos (by omega)]
      unfold laws_toAccess.f
      rw [Option.bind_some, if_pos (by omega), Int.toNat_natCast, rdL, wid (x := (i : Int) + 1) (by omega) (by omega), show ((i + 1 : Nat) : Int) = (i : Int) + 1 by omega]
      rfl
    · rw [gset _ _ _ _ _ (by omega)]
      by_cases e : i = j
      · subst e; rw [if_pos rfl, gmap z81 z32 conv l i (by omega)]
      · rw [if_neg e]; exact h j (by omega)
theorem toAcc (l : List S81) (hl : l.length ≤ 17592186044416) : Ev (fun k => laws_toAccessS.f k l) (l.map conv) := by
  unfold laws_toAccessS.f
  simp only [if_pos (show (0 : Int) ≤ (l.length : Int) by omega), Int.toNat_natCast, if_pos hl]
  exact toAcc_l l hl l.length 0 _ (by rw [List.length_replicate]) (fun j hj => by omega) (by omega) (by omega)

def traceOk (l : List S32) : Bool := decide (l.length ≤ 60) && l.all accOk
theorem impl_trace (l : List S32) : impl_ValidTrace.f l = some (traceOk l) := rfl
theorem traceOk_len {l : List S32} (h : traceOk l = true) : l.length ≤ 60 := by
  unfold traceOk at h
  rw [Bool.and_eq_true] at h
  exact of_decide_eq_true h.1
theorem traceOk_mem {l : List S32} (h : traceOk l = true) {x : S32} (hx : x ∈ l) : 0 ≤ x.f0 ∧ x.f0 ≤ 1 ∧ 0 ≤ x.f1 ∧ x.f1 ≤ 63 := by
  unfold traceOk at h
  rw [Bool.and_eq_true, List.all_eq_true] at h
  exact of_decide_eq_true (h.2 x hx)

theorem spec_acc (x : S32) : ((spec_l02Kind.f x.f0).bind fun t => if t = true then (spec_l02Address.f x.f1).bind fun u => some u else some false) = some (accOk x) := by
  unfold spec_l02Kind.f spec_l02Address.f spec_l00In.f accOk
  by_cases h0 : x.f0 = 0
  · by_cases h1 : 0 ≤ x.f1 <;> by_cases h2 : x.f1 ≤ 63 <;> simp [h0, h1, h2]
  · by_cases h3 : x.f0 = 1
    · by_cases h1 : 0 ≤ x.f1 <;> by_cases h2 : x.f1 ≤ 63 <;> simp [h3, h1, h2]
    · have : ¬ (0 ≤ x.f0 ∧ x.f0 ≤ 1 ∧ 0 ≤ x.f1 ∧ x.f1 ≤ 63) := by omega
      simp [h0, h3, this]
theorem spec_trace_l (l : List S32) (hl : l.length ≤ 140737488355328) (d : Nat) : ∀ (i : Nat), l.length - i = d → i ≤ l.length → Ev (fun k => spec_l02Is.l0 k l (i : Int)) (decide (l.length ≤ 60) && (l.drop i).all accOk) := by
  induction d with
  | zero =>
    intro i hd hi
    rw [List.drop_eq_nil_of_le (by omega), List.all_nil, Bool.and_true]
    refine ev_ret (fun k => ?_)
    rw [spec_l02Is.l0, if_neg (by omega)]
    by_cases h : l.length ≤ 60
    · rw [decide_eq_true h, decide_eq_true (by omega)]
    · rw [decide_eq_false h, decide_eq_false (by omega)]
  | succ d ih =>
    intro i hd hi
    rw [gdrop z32 l i (by omega), List.all_cons]
    have ha := spec_acc (l.getD i z32)
    have e1 := ih (i + 1) (by omega) (by omega)
    rw [show ((i + 1 : Nat) : Int) = (i : Int) + 1 by omega] at e1
    obtain ⟨b1, hb1⟩ : ∃ b, spec_l02Kind.f (l.getD i z32).f0 = some b := by unfold spec_l02Kind.f; split <;> exact ⟨_, rfl⟩
    obtain ⟨b2, hb2⟩ : ∃ b, spec_l02Address.f (l.getD i z32).f1 = some b := by unfold spec_l02Address.f spec_l00In.f; split <;> exact ⟨_, rfl⟩
    rw [hb1, hb2] at ha
    cases b1 with
    | false =>
      have ha2 : accOk (l.getD i z32) = false := by simpa using ha.symm
      rw [ha2, Bool.false_and, Bool.and_false]
      exact ev_ret (fun k => by rw [spec_l02Is.l0, if_pos (by omega), if_pos (by omega), rdA, hb1, Option.bind_some, if_neg (by decide)])
    | true =>
      cases b2 with
      | false =>
        have ha2 : accOk (l.getD i z32) = false := by simpa using ha.symm
        rw [ha2, Bool.false_and, Bool.and_false]
        exact ev_ret (fun k => by rw [spec_l02Is.l0, if_pos (by omega), if_pos (by omega), rdA, hb1, Option.bind_some, if_pos rfl, hb2, Option.bind_some, if_neg (by decide)])
      | true =>
        have ha2 : accOk (l.getD i z32) = true := by simpa using ha.symm
        rw [ha2, Bool.true_and]
        refine Ev.step (fun k => ?_) e1
        rw [spec_l02Is.l0, if_pos (by omega), if_pos (by omega), rdA, hb1, Option.bind_some, if_pos rfl, hb2, Option.bind_some, if_pos rfl, wid (x := (i : Int) + 1) (by omega) (by omega)]
theorem spec_trace (l : List S32) (hl : l.length ≤ 140737488355328) : Ev (fun k => spec_l02Is.f k l) (traceOk l) := spec_trace_l l hl l.length 0 (by omega) (by omega)

theorem eqA_l (a : List S32) (ha : a.length ≤ 140737488355328) (d : Nat) : ∀ (i : Int), 0 ≤ i → (a.length : Int) - i = d → Ev (fun k => laws_eqAccessS.l0 k a a i) true := by
  induction d with
  | zero => intro i h0 hd; exact ev_ret (fun k => by rw [laws_eqAccessS.l0, if_neg (by omega)])
  | succ d ih =>
    intro i h0 hd
    refine Ev.step (fun k => ?_) (ih (i + 1) (by omega) (by omega))
    rw [laws_eqAccessS.l0, if_pos (by omega), if_pos h0, if_pos (by omega)]
    unfold laws_eqAccess.f
    rw [if_pos rfl, if_pos rfl, Option.bind_some, if_pos rfl, wid (x := i + 1) (by omega) (by omega)]
theorem eqA (a : List S32) (ha : a.length ≤ 140737488355328) : Ev (fun k => laws_eqAccessS.f k a a) true := by
  unfold laws_eqAccessS.f
  simp only [if_true]
  exact eqA_l a ha a.length 0 (by omega) (by omega)

theorem szA (l : List S81) (n : Int) (h0 : 0 ≤ n) (hn : n ≤ 1048576) (hl : l.length ≤ 9223372036854775807) : laws_szAccessS.f l n = some (if n < (l.length : Int) then -1 else n - (l.length : Int)) := by
  unfold laws_szAccessS.f
  rw [wid (by omega) (by omega)]
  by_cases h : n < (l.length : Int)
  · rw [if_pos (by omega), if_pos h]
  · rw [if_neg (by omega), if_neg h]

/-! marks in accesses -/
/-- A list of accesses whose numbers go up two by two from a on, as far as index i. -/
def UptoA (a : Int) (n : Nat) (xs : List S32) (i : Nat) : Prop := xs.length = n ∧ ∀ j, j < i → xs.getD j z32 = ⟨a + 2 * (j : Int), a + 2 * (j : Int) + 1⟩
theorem uptoA_set {a : Int} {n i : Nat} {xs : List S32} (h : UptoA a n xs i) (hi : i < n) : UptoA a n (xs.set i ⟨a + 2 * (i : Int), a + 2 * (i : Int) + 1⟩) (i + 1) := by
  refine ⟨by rw [List.length_set]; exact h.1, fun j hj => ?_⟩
  have hl := h.1
  rw [gset _ _ _ _ _ (by omega)]
  by_cases e : i = j
  · subst e; rw [if_pos rfl]
  · rw [if_neg e]; exact h.2 j (by omega)
theorem markA_l (a : Int) (n : Nat) (h1 : 0 ≤ a) (h2 : a ≤ 1152921504606846976) (hn : n ≤ 140737488355328) (d : Nat) : ∀ (i : Nat) (xs : List S32), UptoA a n xs i → n - i = d → i ≤ n →
    ∃ ys, Ev (fun k => laws_markAccessS.l0 k xs (a + 2 * (i : Int)) (i : Int)) (a + 2 * (n : Int), ys) ∧ UptoA a n ys n := by
  induction d with
  | zero =>
    intro i xs h hd hi
    have e : i = n := by omega
    subst e
    have hl := h.1
    exact ⟨xs, ev_ret (fun k => by rw [laws_markAccessS.l0, if_neg (by omega)]), h⟩
  | succ d ih =>
    intro i xs h hd hi
    have hl := h.1
    obtain ⟨ys, e, hy⟩ := ih (i + 1) _ (uptoA_set h (by omega)) (by omega) (by omega)
    refine ⟨ys, Ev.step (fun k => ?_) e, hy⟩
    rw [laws_markAccessS.l0, if_pos (by omega), if_pos (by omega), Option.bind_some, rdA, rdA, gset _ _ _ _ _ (by rw [Int.toNat_natCast]; omega), Int.toNat_natCast, if_pos rfl, List.set_set,
      wid (x := a + 2 * (i : Int) + 1) (by omega) (by omega), wid (x := a + 2 * (i : Int) + 1 + 1) (by omega) (by omega), wid (x := (i : Int) + 1) (by omega) (by omega)]
    rw [show a + 2 * ((i + 1 : Nat) : Int) = a + 2 * (i : Int) + 1 + 1 by omega, show ((i + 1 : Nat) : Int) = (i : Int) + 1 by omega]
theorem mark_A (a : Int) (xs : List S32) (h1 : 0 ≤ a) (h2 : a ≤ 1152921504606846976) (hn : xs.length ≤ 140737488355328) :
    ∃ ys, Ev (fun k => laws_markAccessS.f k xs a) (a + 2 * (xs.length : Int), ys) ∧ UptoA a xs.length ys xs.length := by
  obtain ⟨ys, e, hy⟩ := markA_l a xs.length h1 h2 hn xs.length 0 xs ⟨rfl, fun j hj => by omega⟩ (by omega) (by omega)
  exact ⟨ys, by simpa [laws_markAccessS.f] using e, hy⟩

theorem heldA_l (a : Int) (n : Nat) (ys : List S32) (h1 : 0 ≤ a) (h2 : a ≤ 1152921504606846976) (hn : n ≤ 140737488355328) (h : UptoA a n ys n) (d : Nat) : ∀ (i : Nat), n - i = d → i ≤ n →
    Ev (fun k => laws_heldAccessS.l0 k ys (a + 2 * (i : Int)) (i : Int)) (a + 2 * (n : Int)) := by
  have hl := h.1
  induction d with
  | zero =>
    intro i hd hi
    have e : i = n := by omega
    subst e
    exact ev_ret (fun k => by rw [laws_heldAccessS.l0, if_neg (by omega)])
  | succ d ih =>
    intro i hd hi
    refine Ev.step (fun k => ?_) (ih (i + 1) (by omega) (by omega))
    have hr := h.2 i (by omega)
    rw [laws_heldAccessS.l0, if_pos (by omega), if_pos (by omega), rdA, hr, if_pos rfl,
      wid (x := a + 2 * (i : Int) + 1) (by omega) (by omega), if_pos rfl, wid (x := a + 2 * (i : Int) + 1 + 1) (by omega) (by omega), wid (x := (i : Int) + 1) (by omega) (by omega)]
    rw [show a + 2 * ((i + 1 : Nat) : Int) = a + 2 * (i : Int) + 1 + 1 by omega, show ((i + 1 : Nat) : Int) = (i : Int) + 1 by omega]
theorem mark_heldA (a : Int) (xs : List S32) (h1 : 0 ≤ a) (h2 : a ≤ 1152921504606846976) (hn : xs.length ≤ 140737488355328) :
    ∃ ys, Ev (fun k => laws_markAccessS.f k xs a) (a + 2 * (xs.length : Int), ys) ∧ Ev (fun k => laws_heldAccessS.f k ys a) (a + 2 * (xs.length : Int)) := by
  obtain ⟨ys, e, hy⟩ := mark_A a xs h1 h2 hn
  have e2 := heldA_l a xs.length ys h1 h2 hn hy xs.length 0 (by omega) (by omega)
  exact ⟨ys, e, by simpa [laws_heldAccessS.f] using e2⟩

/-- A list whose numbers go up one by one from a on, as far as index i. -/
def Upto (a : Int) (n : Nat) (xs : List Int) (i : Nat) : Prop := xs.length = n ∧ ∀ j, j < i → xs.getD j 0 = a + (j : Int)
theorem upto_set {a : Int} {n i : Nat} {xs : List Int} (h : Upto a n xs i) (hi : i < n) : Upto a n (xs.set i (a + (i : Int))) (i + 1) := by
  refine ⟨by rw [List.length_set]; exact h.1, fun j hj => ?_⟩
  have hl := h.1
  rw [List.getD_eq_getElem?_getD, List.getElem?_set]
  by_cases e : i = j
  · subst e
    rw [if_pos rfl, if_pos (by omega)]
    rfl
  · rw [if_neg e, ← List.getD_eq_getElem?_getD]
    exact h.2 j (by omega)
theorem mark_l (a : Int) (n : Nat) (h1 : 0 ≤ a) (h2 : a ≤ 4611686018427387904) (hn : n ≤ 140737488355328) (d : Nat) : ∀ (i : Nat) (xs : List Int), Upto a n xs i → n - i = d → i ≤ n →
    ∃ ys, Ev (fun k => laws_markInt64S.l0 k xs (a + (i : Int)) (i : Int)) (a + (n : Int), ys) ∧ Upto a n ys n := by
  induction d with
  | zero =>
    intro i xs h hd hi
    have e : i = n := by omega
    subst e
    have hl := h.1
    exact ⟨xs, ev_ret (fun k => by rw [laws_markInt64S.l0, if_neg (by omega)]), h⟩
  | succ d ih =>
    intro i xs h hd hi
    have hl := h.1
    obtain ⟨ys, e, hy⟩ := ih (i + 1) _ (upto_set h (by omega)) (by omega) (by omega)
    refine ⟨ys, Ev.step (fun k => ?_) e, hy⟩
    rw [laws_markInt64S.l0, if_pos (by omega), if_pos (by omega), wid (x := a + (i : Int) + 1) (by omega) (by omega), wid (x := (i : Int) + 1) (by omega) (by omega), Int.toNat_natCast]
    rw [show a + ((i + 1 : Nat) : Int) = a + (i : Int) + 1 by omega, show ((i + 1 : Nat) : Int) = (i : Int) + 1 by omega]
theorem mark_I (a : Int) (xs : List Int) (h1 : 0 ≤ a) (h2 : a ≤ 4611686018427387904) (hn : xs.length ≤ 140737488355328) :
    ∃ ys, Ev (fun k => laws_markInt64S.f k xs a) (a + (xs.length : Int), ys) ∧ Upto a xs.length ys xs.length := by
  obtain ⟨ys, e, hy⟩ := mark_l a xs.length h1 h2 hn xs.length 0 xs ⟨rfl, fun j hj => by omega⟩ (by omega) (by omega)
  exact ⟨ys, by simpa [laws_markInt64S.f] using e, hy⟩

/-- A list is equal to itself. -/
theorem eqs_l (a : List Int) (ha : a.length ≤ 140737488355328) (d : Nat) : ∀ (i : Int), 0 ≤ i → (a.length : Int) - i = d → Ev (fun k => laws_eqInt64S.l0 k a a i) true := by
  induction d with
  | zero => intro i h0 hd; exact ev_ret (fun k => by rw [laws_eqInt64S.l0, if_neg (by omega)])
  | succ d ih =>
    intro i h0 hd
    refine Ev.step (fun k => ?_) (ih (i + 1) (by omega) (by omega))
    rw [laws_eqInt64S.l0, if_pos (by omega), if_pos h0, if_pos (by omega), if_pos rfl, wid (x := i + 1) (by omega) (by omega)]
theorem eqs (a : List Int) (ha : a.length ≤ 140737488355328) : Ev (fun k => laws_eqInt64S.f k a a) true := by
  unfold laws_eqInt64S.f
  simp only [if_true]
  exact eqs_l a ha a.length 0 (by omega) (by omega)

theorem toInts_l (l : List Int) (hl : l.length ≤ 140737488355328) (d : Nat) : ∀ (i : Nat) (xs : List Int), xs.length = l.length → (∀ j, j < i → xs.getD j 0 = l.getD j 0) → l.length - i = d → i ≤ l.length →
    Ev (fun k => laws_toInt64S.l0 k l xs (i : Int)) l := by
  induction d with
  | zero =>
    intro i xs hx h hd hi
    have e : xs = l := ext_getD hx (fun j hj => h j (by omega))
    subst e
    exact ev_ret (fun k => by rw [laws_toInt64S.l0, if_neg (by omega)])
  | succ d ih =>
    intro i xs hx h hd hi
    refine Ev.step (fun k => ?_) (ih (i + 1) (xs.set i (rd l (i : Int))) (by rw [List.length_set, hx]) (fun j hj => ?_) (by omega) (by omega))
    · rw [laws_toInt64S.l0, if_pos (by omega), if_pos (by omega), if_pos (by omega), Int.toNat_natCast, wid (x := (i : Int) + 1) (by omega) (by omega), show ((i + 1 : Nat) : Int) = (i : Int) + 1 by omega]
    · rw [getD_set _ _ _ _ (by omega)]
      by_cases e : i = j
      · subst e; rw [if_pos rfl, rd_nat]
      · rw [if_neg e]; exact h j (by omega)
theorem toInts (l : List Int) (hl : l.length ≤ 35184372088832) : Ev (fun k => laws_toInt64S.f k l) l := by
  unfold laws_toInt64S.f
  simp only [if_pos (show (0 : Int) ≤ (l.length : Int) by omega), Int.toNat_natCast, if_pos hl]
  exact toInts_l l (by omega) l.length 0 _ (by rw [List.length_replicate]) (fun j hj => by omega) (by omega) (by omega)

def mg (a b : List S32) : List Int → List S32 → Nat → Nat → List S32 × Bool
  | [], acc, _, _ => (acc, true)
  | t :: r, acc, i, j => if t = 0 ∧ i < a.length then mg a b r (acc ++ [a.getD i z32]) (i + 1) j else if t = 1 ∧ j < b.length then mg a b r (acc ++ [b.getD j z32]) i (j + 1) else ([], false)
theorem mg_len (a b : List S32) : ∀ (r : List Int) (acc : List S32) (i j : Nat), (mg a b r acc i j).1.length ≤ acc.length + r.length
  | [], acc, i, j => by simp [mg]
  | t :: r, acc, i, j => by
    rw [mg]
    split
    · have := mg_len a b r (acc ++ [a.getD i z32]) (i + 1) j; simp at this ⊢; omega
    · split
      · have := mg_len a b r (acc ++ [b.getD j z32]) i (j + 1); simp at this ⊢; omega
      · simp
theorem mg_bad (a b : List S32) : ∀ (r : List Int) (acc : List S32) (i j : Nat), ¬ (r.all fun x => decide (0 ≤ x) && decide (x ≤ 1)) = true → mg a b r acc i j = ([], false)
  | [], acc, i, j, h => absurd rfl h
  | t :: r, acc, i, j, h => by
    rw [mg]
    rw [List.all_cons, Bool.and_eq_true] at h
    split
    · rename_i g; exact mg_bad a b r _ _ _ (fun q => h ⟨by rw [g.1]; rfl, q⟩)
    · split
      · rename_i g; exact mg_bad a b r _ _ _ (fun q => h ⟨by rw [g.1]; rfl, q⟩)
      · rfl
theorem acc_eta (x : S32) : (⟨x.f0, x.f1⟩ : S32) = x := rfl
theorem spec_mg (a b : List S32) (l : List Int) (ha : a.length ≤ 60) (hb : b.length ≤ 60) (hl : l.length ≤ 60) (d : Nat) : ∀ (n : Nat) (acc : List S32) (i j : Nat), l.length - n = d → n ≤ l.length → acc.length ≤ n → i ≤ a.length → j ≤ b.length →
    Ev (fun k => spec_MergeTraces.l0 k a b l acc (i : Int) (j : Int) (n : Int)) (mg a b (l.drop n) acc i j) := by
  induction d with
  | zero =>
    intro n acc i j hd hn hacc hi hj
    rw [List.drop_eq_nil_of_le (by omega), mg]
    exact ev_ret (fun k => by rw [spec_MergeTraces.l0, if_neg (by omega)])
  | succ d ih =>
    intro n acc i j hd hn hacc hi hj
    rw [gdrop 0 l n (by omega), mg]
    have hr : rd l (n : Int) = l.getD n 0 := rd_nat l n
    have e0 : ∀ k x, spec_MergeTraces.l0 (k + 1) a b l acc (i : Int) (j : Int) (n : Int) = x ↔ spec_MergeTraces.j2 k a b l acc (i : Int) (j : Int) (n : Int) (decide (l.getD n 0 = 0 ∧ i < a.length)) = x := by
      intro k x
      rw [spec_MergeTraces.l0, if_pos (by omega), if_pos (by omega), hr]
      by_cases h0 : l.getD n 0 = 0
      · by_cases h1 : i < a.length
        · rw [if_pos h0, decide_eq_true (p := (i : Int) < (a.length : Int)) (by omega), decide_eq_true ⟨h0, h1⟩]
        · rw [if_pos h0, decide_eq_false (p := (i : Int) < (a.length : Int)) (by omega), decide_eq_false (fun q => h1 q.2)]
      · rw [if_neg h0, decide_eq_false (fun q => h0 q.1)]
    refine Ev.step (fun k => (e0 k _).mpr rfl) ?_
    by_cases h : l.getD n 0 = 0 ∧ i < a.length
    · rw [if_pos h, decide_eq_true h]
      refine Ev.step (fun k => ?_) (ih (n + 1) (acc ++ [a.getD i z32]) (i + 1) j (by omega) (by omega) (by simp; omega) (by omega) hj)
      rw [spec_MergeTraces.j2, if_pos rfl, if_pos (by omega), if_pos (by omega), if_pos (by omega), rdA, wid (x := (n : Int) + 1) (by omega) (by omega), wid (x := (i : Int) + 1) (by omega) (by omega), show ((n + 1 : Nat) : Int) = (n : Int) + 1 by omega, show ((i + 1 : Nat) : Int) = (i : Int) + 1 by omega]
    · rw [if_neg h, decide_eq_false h]
      by_cases g : l.getD n 0 = 1 ∧ j < b.length
      · rw [if_pos g]
        refine Ev.step (fun k => ?_) (ih (n + 1) (acc ++ [b.getD j z32]) i (j + 1) (by omega) (by omega) (by simp; omega) hi (by omega))
        rw [spec_MergeTraces.j2, if_neg (by decide), if_pos (by omega), if_pos (by omega), hr, if_pos g.1, if_pos (by omega), if_pos (by omega), if_pos (by omega), rdA, wid (x := (n : Int) + 1) (by omega) (by omega), wid (x := (j : Int) + 1) (by omega) (by omega), show ((n + 1 : Nat) : Int) = (n : Int) + 1 by omega, show ((j + 1 : Nat) : Int) = (j : Int) + 1 by omega]
      · rw [if_neg g]
        refine ev_ret (fun k => ?_)
        rw [spec_MergeTraces.j2, if_neg (by decide), if_pos (by omega), if_pos (by omega), hr]
        by_cases g1 : l.getD n 0 = 1
        · rw [if_pos g1, if_neg (fun q => g ⟨g1, by omega⟩)]
        · rw [if_neg g1]
theorem impl_mg (a b : List S32) (l : List Int) (ha : a.length ≤ 60) (hb : b.length ≤ 60) (hl : l.length ≤ 60) (d : Nat) : ∀ (n : Nat) (acc : List S32) (i j : Nat), l.length - n = d → n ≤ l.length → acc.length ≤ n → i ≤ a.length → j ≤ b.length →
    Ev (fun k => impl_MergeTraces.l0 k a b acc (i : Int) (j : Int) l (l.length : Int) (n : Int)) (mg a b (l.drop n) acc i j) := by
  induction d with
  | zero =>
    intro n acc i j hd hn hacc hi hj
    rw [List.drop_eq_nil_of_le (by omega), mg]
    exact ev_ret (fun k => by rw [impl_MergeTraces.l0, if_neg (by omega)])
  | succ d ih =>
    intro n acc i j hd hn hacc hi hj
    rw [gdrop 0 l n (by omega), mg]
    have hr : rd l (n : Int) = l.getD n 0 := rd_nat l n
    have e0 : ∀ k x, impl_MergeTraces.l0 (k + 1) a b acc (i : Int) (j : Int) l (l.length : Int) (n : Int) = x ↔ impl_MergeTraces.j2 k a b acc (i : Int) (j : Int) (l.getD n 0) l (l.length : Int) (n : Int) (decide (l.getD n 0 = 0 ∧ i < a.length)) = x := by
      intro k x
      rw [impl_MergeTraces.l0, if_pos (by omega), if_pos (by omega), if_pos (by omega), hr]
      by_cases h0 : l.getD n 0 = 0
      · by_cases h1 : i < a.length
        · rw [if_pos h0, decide_eq_true (p := (i : Int) < (a.length : Int)) (by omega), decide_eq_true ⟨h0, h1⟩]
        · rw [if_pos h0, decide_eq_false (p := (i : Int) < (a.length : Int)) (by omega), decide_eq_false (fun q => h1 q.2)]
      · rw [if_neg h0, decide_eq_false (fun q => h0 q.1)]
    refine Ev.step (fun k => (e0 k _).mpr rfl) ?_
    by_cases h : l.getD n 0 = 0 ∧ i < a.length
    · rw [if_pos h, decide_eq_true h]
      refine Ev.step (fun k => ?_) (ih (n + 1) (acc ++ [a.getD i z32]) (i + 1) j (by omega) (by omega) (by simp; omega) (by omega) hj)
      rw [impl_MergeTraces.j2, if_pos rfl, if_pos (by omega), if_pos (by omega), if_pos (by omega), rdA, wid (x := (n : Int) + 1) (by omega) (by omega), wid (x := (i : Int) + 1) (by omega) (by omega), show ((n + 1 : Nat) : Int) = (n : Int) + 1 by omega, show ((i + 1 : Nat) : Int) = (i : Int) + 1 by omega]
    · rw [if_neg h, decide_eq_false h]
      by_cases g : l.getD n 0 = 1 ∧ j < b.length
      · rw [if_pos g]
        refine Ev.step (fun k => ?_) (ih (n + 1) (acc ++ [b.getD j z32]) i (j + 1) (by omega) (by omega) (by simp; omega) hi (by omega))
        rw [impl_MergeTraces.j2, if_neg (by decide), if_pos g.1, if_pos (by omega), if_pos (by omega), if_pos (by omega), rdA, wid (x := (n : Int) + 1) (by omega) (by omega), wid (x := (j : Int) + 1) (by omega) (by omega), show ((n + 1 : Nat) : Int) = (n : Int) + 1 by omega, show ((j + 1 : Nat) : Int) = (j : Int) + 1 by omega]
      · rw [if_neg g]
        refine ev_ret (fun k => ?_)
        rw [impl_MergeTraces.j2, if_neg (by decide)]
        by_cases g1 : l.getD n 0 = 1
        · rw [if_pos g1, if_neg (fun q => g ⟨g1, by omega⟩)]
        · rw [if_neg g1]
theorem bothM (a b : List S32) (l : List Int) (ha : a.length ≤ 1048576) (hb : b.length ≤ 1048576) (hl : l.length ≤ 1048576) : ∃ r, Ev (fun k => spec_MergeTraces.f k a b l) r ∧ Ev (fun k => impl_MergeTraces.f k a b l) r ∧ r.1.length ≤ 1000000 := by
  have sb : ∀ k, spec_MergeTraces.j0 (k + 1) a b l true = some ([], false) := fun k => by rw [spec_MergeTraces.j0, if_pos rfl]
  have ib : ∀ k, impl_MergeTraces.j0 (k + 1) a b l true = some ([], false) := fun k => by rw [impl_MergeTraces.j0, if_pos rfl]
  unfold spec_MergeTraces.f impl_MergeTraces.f impl_allIn.f
  simp only [impl_trace, Option.bind_some]
  by_cases h : traceOk a = true
  · have hn := traceOk_len h
    simp only [if_pos h]
    by_cases h2 : traceOk b = true
    · have hn2 := traceOk_len h2
      simp only [if_pos h2]
      by_cases h3 : (l.length : Int) > 60
      · simp only [if_pos h3]
        refine ⟨([], false), ?_, ev_ret ib, by simp⟩
        refine Ev.bind (spec_trace a (by omega)) ?_
        simp only [if_pos h]
        refine Ev.bind (spec_trace b (by omega)) ?_
        simp only [if_pos h2]
        exact ev_ret sb
      · simp only [if_neg h3]
        have w1 : wrap64 ((a.length : Int) + (b.length : Int)) = (a.length : Int) + (b.length : Int) := wid (by omega) (by omega)
        rw [w1]
        by_cases h4 : (l.length : Int) = (a.length : Int) + (b.length : Int)
        · refine ⟨mg a b l [] 0 0, ?_, ?_, ?_⟩
          · refine Ev.bind (spec_trace a (by omega)) ?_
            simp only [if_pos h]
            refine Ev.bind (spec_trace b (by omega)) ?_
            simp only [if_pos h2, ← h4, bne_self_eq_false]
            refine Ev.step (fun k => by rw [spec_MergeTraces.j0, if_neg (by decide)]) ?_
            exact spec_mg a b l hn hn2 (by omega) l.length 0 [] 0 0 (by omega) (by omega) (by simp) (by omega) (by omega)
          · by_cases h5 : (l.all fun x => decide (0 ≤ x) && decide (x ≤ 1)) = true
            · simp only [if_pos h5, ← h4, bne_self_eq_false]
              refine Ev.step (fun k => by rw [impl_MergeTraces.j0, if_neg (by decide)]) ?_
              exact impl_mg a b l hn hn2 (by omega) l.length 0 [] 0 0 (by omega) (by omega) (by simp) (by omega) (by omega)
            · rw [mg_bad a b l [] 0 0 h5]
              simp only [if_neg h5]
              exact ev_ret ib
          · have := mg_len a b l [] 0 0; simp at this; omega
        · have hne : ((l.length : Int) != (a.length : Int) + (b.length : Int)) = true := by simpa using h4
          rw [hne]
          refine ⟨([], false), ?_, ?_, by simp⟩
          · refine Ev.bind (spec_trace a (by omega)) ?_
            simp only [if_pos h]
            refine Ev.bind (spec_trace b (by omega)) ?_
            simp only [if_pos h2]
            exact ev_ret sb
          · simp only [ite_self]
            exact ev_ret ib
    · simp only [if_neg h2]
      refine ⟨([], false), ?_, ev_ret ib, by simp⟩
      refine Ev.bind (spec_trace a (by omega)) ?_
      simp only [if_pos h]
      refine Ev.bind (spec_trace b (by omega)) ?_
      simp only [if_neg h2]
      exact ev_ret sb
  · simp only [if_neg h]
    refine ⟨([], false), ?_, ev_ret ib, by simp⟩
    refine Ev.bind (spec_trace a (by omega)) ?_
    simp only [if_neg h]
    exact ev_ret sb
theorem FnExactMergeTraces : laws_FnExactMergeTraces.Pure := by
  intro a b l ha hb hl
  refine Ev.rounds (r := true) ?_
  unfold laws_FnExactMergeTraces.f
  by_cases hc : (l.length : Int) > 1048576
  · simp only [if_pos hc]; exact Ev.now _
  simp only [if_neg hc, szA a 1048576 (by omega) (by omega) ha.1, Option.bind_some]
  by_cases h1 : (1048576 : Int) < (a.length : Int)
  · simp only [if_pos h1, if_pos (show (-1 : Int) < 0 by omega)]; exact Ev.now _
  simp only [if_neg h1, if_neg (show ¬ (1048576 - (a.length : Int) < 0) by omega), szA b (1048576 - (a.length : Int)) (by omega) (by omega) hb.1, Option.bind_some]
  by_cases h2 : 1048576 - (a.length : Int) < (b.length : Int)
  · simp only [if_pos h2, if_pos (show (-1 : Int) < 0 by omega)]; exact Ev.now _
  simp only [if_neg h2, if_neg (show ¬ (1048576 - (a.length : Int) - (b.length : Int) < 0) by omega)]
  have ea := toAcc a (by omega)
  have eb := toAcc b (by omega)
  have et := toInts l (by omega)
  have hma : (a.map conv).length = a.length := List.length_map ..
  have hmb : (b.map conv).length = b.length := List.length_map ..
  obtain ⟨r, es, ei, hr⟩ := bothM (a.map conv) (b.map conv) l (by omega) (by omega) (by omega)
  obtain ⟨ys, hk, hh⟩ := mark_heldA 1 r.1 (by omega) (by omega) (by omega)
  obtain ⟨z1, hk1, _⟩ := mark_A 1 (a.map conv) (by omega) (by omega) (by omega)
  obtain ⟨z2, hk2, _⟩ := mark_A (1 + 2 * ((a.map conv).length : Int)) (b.map conv) (by omega) (by omega) (by omega)
  obtain ⟨z3, hk3, _⟩ := mark_I (1 + 2 * ((a.map conv).length : Int) + 2 * ((b.map conv).length : Int)) l (by omega) (by omega) (by omega)
  refine Ev.bind ea (Ev.bind eb (Ev.bind et (Ev.bind es (Ev.bind ea (Ev.bind eb (Ev.bind et (Ev.bind ei (Ev.bind (eqA _ (by omega)) ?_))))))))
  simp only [bne_self_eq_false, if_true]
  refine Ev.step (fun k => by rw [laws_FnExactMergeTraces.j0, if_neg (by decide)]) ?_
  refine Ev.bind ea (Ev.bind (eqA _ (by omega)) ?_)
  simp only [if_true]
  refine Ev.bind eb (Ev.bind (eqA _ (by omega)) ?_)
  simp only [if_true]
  refine Ev.bind et (Ev.bind (eqs _ (by omega)) ?_)
  simp only [if_true]
  refine Ev.bind hk1 (Ev.bind hk2 (Ev.bind hk3 ?_))
  simp only [if_neg (show ¬ (1 + 2 * ((a.map conv).length : Int) + 2 * ((b.map conv).length : Int) + (l.length : Int) < 0) by omega)]
  refine Ev.bind (eqA _ (by omega)) ?_
  simp only [bne_self_eq_false, if_true]
  refine Ev.step (fun k => by rw [laws_FnExactMergeTraces.j1, if_neg (by decide)]) ?_
  refine Ev.bind hk (Ev.bind hh ?_)
  simp only [if_neg (show ¬ (1 + 2 * (r.1.length : Int) < 0) by omega), if_true]
  refine Ev.bind ea (Ev.bind eb (Ev.bind et (Ev.bind ei (Ev.bind (eqA _ (by omega)) ?_))))
  simp only [bne_self_eq_false, if_true]
  refine Ev.step (fun k => by rw [laws_FnExactMergeTraces.j2, if_neg (by decide)]) ?_
  refine Ev.bind hh (ev_all fun k => ?_)
  rw [if_neg (by omega), if_pos rfl]

end Go.Proofs.Ytbdedpodbnhkfaa.Pure
