/- The program's UsesOf returns what the reference's returns, for every list of accesses, in new memory. Conditions: those of the row alone. -/
import Derived.Test.YtbdedpodbnhkfaaPFnExactUsesOfy
namespace Go.Proofs.Ytbdedpodbnhkfaa.Pure
open Go.RowKit Go.Proofs.Ytbdedpodbnhkfaa.PFnExactUsesOf Go.Proofs.YtbdedpodbnhkfaaW.PrintWords Go.Proofs.YtbdedpodbnhkfaaW.PrintLast Go.Proofs.YtbdedpodbnhkfaaW.PrintMore
set_option linter.unusedVariables false
set_option linter.unusedSimpArgs false

theorem wid {x : Int} (h1 : -9223372036854775808 ≤ x) (h2 : x < 9223372036854775808) : wrap64 x = x := by unfold wrap64; omega
theorem i64_bd {x : Int} (h : (Lit.int .i64 x).wf = true) : -9223372036854775808 ≤ x ∧ x ≤ 9223372036854775807 := by
  simp only [Lit.wf, IntKind.min, IntKind.max, IntKind.signed, IntKind.bits, Bool.and_eq_true, decide_eq_true_eq, if_true] at h
  omega
/-- A loop's step, its answer known at once. -/
theorem ev_ret {α : Type} {g : Nat → Option α} {r : α} (h : ∀ k, g (k + 1) = some r) : Ev g r := Ev.step (f := fun _ => some r) h (Ev.now r)
theorem ev_all {α : Type} {g : Nat → Option α} {r : α} (h : ∀ k, g k = some r) : Ev g r := ⟨0, fun k _ => h k⟩

theorem getD_set (xs : List Int) (i j : Nat) (v : Int) (hi : i < xs.length) : (xs.set i v).getD j 0 = if i = j then v else xs.getD j 0 := by
  rw [List.getD_eq_getElem?_getD, List.getElem?_set]
  by_cases e : i = j
  · subst e; rw [if_pos rfl, if_pos hi, if_pos rfl]; rfl
  · rw [if_neg e, if_neg e, List.getD_eq_getElem?_getD]
theorem ext_getD {xs ys : List Int} (h : xs.length = ys.length) (he : ∀ j, j < xs.length → xs.getD j 0 = ys.getD j 0) : xs = ys := by
  apply List.ext_getElem h
  intro j h1 h2
  have := he j h1
  rwa [List.getD_eq_getElem?_getD, List.getD_eq_getElem?_getD, List.getElem?_eq_getElem h1, List.getElem?_eq_getElem h2] at this
theorem rd_nat (xs : List Int) (i : Nat) : rd xs (i : Int) = xs.getD i 0 := by unfold rd; rw [Int.toNat_natCast]
theorem rd_mem (xs : List Int) (i : Nat) (h : i < xs.length) : rd xs (i : Int) ∈ xs := by
  rw [rd_nat, List.getD_eq_getElem?_getD, List.getElem?_eq_getElem h]
  exact List.getElem_mem _
theorem take_snoc (xs : List Int) (i : Nat) (h : i < xs.length) : xs.take (i + 1) = xs.take i ++ [rd xs (i : Int)] := by
  rw [List.take_succ_eq_append_getElem h, rd_nat, List.getD_eq_getElem?_getD, List.getElem?_eq_getElem h]
  rfl
theorem drop_cons (xs : List Int) (i : Nat) (h : i < xs.length) : xs.drop i = rd xs (i : Int) :: xs.drop (i + 1) := by
  rw [List.drop_eq_getElem_cons h, rd_nat, List.getD_eq_getElem?_getD, List.getElem?_eq_getElem h]
  rfl

theorem gset {α : Type} (d : α) (xs : List α) (i j : Nat) (v : α) (hi : i < xs.length) : (xs.set i v).getD j d = if i = j then v else xs.getD j d := by
  rw [List.getD_eq_getElem?_getD, List.getElem?_set]
  by_cases e : i = j
  · subst e; rw [if_pos rfl, if_pos hi, if_pos rfl]; rfl
  · rw [if_neg e, if_neg e, List.getD_eq_getElem?_getD]
theorem gext {α : Type} (d : α) {xs ys : List α} (h : xs.length = ys.length) (he : ∀ j, j < xs.length → xs.getD j d = ys.getD j d) : xs = ys := by
  apply List.ext_getElem h
  intro j h1 h2
  have := he j h1
  rwa [List.getD_eq_getElem?_getD, List.getD_eq_getElem?_getD, List.getElem?_eq_getElem h1, List.getElem?_eq_getElem h2] at this
theorem gmem {α : Type} (d : α) (xs : List α) (i : Nat) (h : i < xs.length) : xs.getD i d ∈ xs := by
  rw [List.getD_eq_getElem?_getD, List.getElem?_eq_getElem h]
  exact List.getElem_mem _
theorem gdrop {α : Type} (d : α) (xs : List α) (i : Nat) (h : i < xs.length) : xs.drop i = xs.getD i d :: xs.drop (i + 1) := by
  rw [List.drop_eq_getElem_cons h, List.getD_eq_getElem?_getD, List.getElem?_eq_getElem h]
  rfl
theorem gmap {α β : Type} (d : α) (e : β) (f : α → β) (xs : List α) (i : Nat) (h : i < xs.length) : (xs.map f).getD i e = f (xs.getD i d) := by
  rw [List.getD_eq_getElem?_getD, List.getD_eq_getElem?_getD, List.getElem?_map, List.getElem?_eq_getElem h]
  rfl

/-! accesses -/
theorem rdA (xs : List S32) (i : Nat) : rd_T32 xs (i : Int) = xs.getD i z32 := by unfold rd_T32; rw [Int.toNat_natCast]
theorem rdL (xs : List S81) (i : Nat) : rd_T81 xs (i : Int) = xs.getD i z81 := by unfold rd_T81; rw [Int.toNat_natCast]
/-- A law's access as the program has it. -/
def conv (x : S81) : S32 := ⟨x.f0, x.f1⟩
theorem toAcc_l (l : List S81) (hl : l.length ≤ 17592186044416) (d : Nat) : ∀ (i : Nat) (xs : List S32), xs.length = l.length → (∀ j, j < i → xs.getD j z32 = (l.map conv).getD j z32) → l.length - i = d → i ≤ l.length →
    Ev (fun k => laws_toAccessS.l0 k l xs (i : Int)) (l.map conv) := by
  induction d with
  | zero =>
    intro i xs hx h hd hi
    have e : xs = l.map conv := gext z32 (by rw [hx, List.length_map]) (fun j hj => h j (by omega))
    rw [← e]
    exact ev_ret (fun k => by rw [laws_toAccessS.l0, if_neg (by omega)])
  | succ d ih =>
    intro i xs hx h hd hi
    refine Ev.step (fun k => ?_) (ih (i + 1) (xs.set i (conv (l.getD i z81))) (by rw [List.length_set, hx]) (fun j hj => ?_) (by omega) (by omega))
    · rw [laws_toAccessS.l0, if_pos (by omega), if_pos (by omega)]
      unfold laws_toAccess.f
      rw [Option.bind_some, if_pos (by omega), Int.toNat_natCast, rdL, wid (x := (i : Int) + 1) (by omega) (by omega), show ((i + 1 : Nat) : Int) = (i : Int) + 1 by omega]
      rfl
    · rw [gset _ _ _ _ _ (by omega)]
      by_cases e : i = j
      · subst e; rw [if_pos rfl, gmap z81 z32 conv l i (by omega)]
      · rw [if_neg e]; exact h j (by omega)
theorem toAcc (l : List S81) (hl : l.length ≤ 17592186044416) : Ev (fun k => laws_toAccessS.f k l) (l.map conv) := by
  unfold laws_toAccessS.f
  simp only [if_pos (show (0 : Int) ≤ (l.length : Int) by omega), Int.toNat_natCast, if_pos hl]
  exact toAcc_l l hl l.length 0 _ (by rw [List.length_replicate]) (fun j hj => by omega) (by omega) (by omega)

def traceOk (l : List S32) : Bool := decide (l.length ≤ 60) && l.all accOk
theorem impl_trace (l : List S32) : impl_ValidTrace.f l = some (traceOk l) := rfl
theorem traceOk_len {l : List S32} (h : traceOk l = true) : l.length ≤ 60 := by
  unfold traceOk at h
  rw [Bool.and_eq_true] at h
  exact of_decide_eq_true h.1
theorem traceOk_mem {l : List S32} (h : traceOk l = true) {x : S32} (hx : x ∈ l) : 0 ≤ x.f0 ∧ x.f0 ≤ 1 ∧ 0 ≤ x.f1 ∧ x.f1 ≤ 63 := by
  unfold traceOk at h
  rw [Bool.and_eq_true, List.all_eq_true] at h
  exact of_decide_eq_true (h.2 x hx)

theorem spec_acc (x : S32) : ((spec_l02Kind.f x.f0).bind fun t => if t = true then (spec_l02Address.f x.f1).bind fun u => some u else some false) = some (accOk x) := by
  unfold spec_l02Kind.f spec_l02Address.f spec_l00In.f accOk
  by_cases h0 : x.f0 = 0
  · by_cases h1 : 0 ≤ x.f1 <;> by_cases h2 : x.f1 ≤ 63 <;> simp [h0, h1, h2]
  · by_cases h3 : x.f0 = 1
    · by_cases h1 : 0 ≤ x.f1 <;> by_cases h2 : x.f1 ≤ 63 <;> simp [h3, h1, h2]
    · have : ¬ (0 ≤ x.f0 ∧ x.f0 ≤ 1 ∧ 0 ≤ x.f1 ∧ x.f1 ≤ 63) := by omega
      simp [h0, h3, this]
theorem spec_trace_l (l : List S32) (hl : l.length ≤ 140737488355328) (d : Nat) : ∀ (i : Nat), l.length - i = d → i ≤ l.length → Ev (fun k => spec_l02Is.l0 k l (i : Int)) (decide (l.length ≤ 60) && (l.drop i).all accOk) := by
  induction d with
  | zero =>
    intro i hd hi
    rw [List.drop_eq_nil_of_le (by omega), List.all_nil, Bool.and_true]
    refine ev_ret (fun k => ?_)
    rw [spec_l02Is.l0, if_neg (by omega)]
    by_cases h : l.length ≤ 60
    · rw [decide_eq_true h, decide_eq_true (by omega)]
    · rw [decide_eq_false h, decide_eq_false (by omega)]
  | succ d ih =>
    intro i hd hi
    rw [gdrop z32 l i (by omega), List.all_cons]
    have ha := spec_acc (l.getD i z32)
    have e1 := ih (i + 1) (by omega) (by omega)
    rw [show ((i + 1 : Nat) : Int) = (i : Int) + 1 by omega] at e1
    obtain ⟨b1, hb1⟩ : ∃ b, spec_l02Kind.f (l.getD i z32).f0 = some b := by unfold spec_l02Kind.f; split <;> exact ⟨_, rfl⟩
    obtain ⟨b2, hb2⟩ : ∃ b, spec_l02Address.f (l.getD i z32).f1 = some b := by unfold spec_l02Address.f spec_l00In.f; split <;> exact ⟨_, rfl⟩
    rw [hb1, hb2] at ha
    cases b1 with
    | false =>
      have ha2 : accOk (l.getD i z32) = false := by simpa using ha.symm
      rw [ha2, Bool.false_and, Bool.and_false]
      exact ev_ret (fun k => by rw [spec_l02Is.l0, if_pos (by omega), if_pos (by omega), rdA, hb1, Option.bind_some, if_neg (by decide)])
    | true =>
      cases b2 with
      | false =>
        have ha2 : accOk (l.getD i z32) = false := by simpa using ha.symm
        rw [ha2, Bool.false_and, Bool.and_false]
        exact ev_ret (fun k => by rw [spec_l02Is.l0, if_pos (by omega), if_pos (by omega), rdA, hb1, Option.bind_some, if_pos rfl, hb2, Option.bind_some, if_neg (by decide)])
      | true =>
        have ha2 : accOk (l.getD i z32) = true := by simpa using ha.symm
        rw [ha2, Bool.true_and]
        refine Ev.step (fun k => ?_) e1
        rw [spec_l02Is.l0, if_pos (by omega), if_pos (by omega), rdA, hb1, Option.bind_some, if_pos rfl, hb2, Option.bind_some, if_pos rfl, wid (x := (i : Int) + 1) (by omega) (by omega)]
theorem spec_trace (l : List S32) (hl : l.length ≤ 140737488355328) : Ev (fun k => spec_l02Is.f k l) (traceOk l) := spec_trace_l l hl l.length 0 (by omega) (by omega)

theorem eqA_l (a : List S32) (ha : a.length ≤ 140737488355328) (d : Nat) : ∀ (i : Int), 0 ≤ i → (a.length : Int) - i = d → Ev (fun k => laws_eqAccessS.l0 k a a i) true := by
  induction d with
  | zero => intro i h0 hd; exact ev_ret (fun k => by rw [laws_eqAccessS.l0, if_neg (by omega)])
  | succ d ih =>
    intro i h0 hd
    refine Ev.step (fun k => ?_) (ih (i + 1) (by omega) (by omega))
    rw [laws_eqAccessS.l0, if_pos (by omega), if_pos h0, if_pos (by omega)]
    unfold laws_eqAccess.f
    rw [if_pos rfl, if_pos rfl, Option.bind_some, if_pos rfl, wid (x := i + 1) (by omega) (by omega)]
theorem eqA (a : List S32) (ha : a.length ≤ 140737488355328) : Ev (fun k => laws_eqAccessS.f k a a) true := by
  unfold laws_eqAccessS.f
  simp only [if_true]
  exact eqA_l a ha a.length 0 (by omega) (by omega)

theorem szA (l : List S81) (n : Int) (h0 : 0 ≤ n) (hn : n ≤ 1048576) (hl : l.length ≤ 9223372036854775807) : laws_szAccessS.f l n = some (if n < (l.length : Int) then -1 else n - (l.length : Int)) := by
  unfold laws_szAccessS.f
  rw [wid (by omega) (by omega)]
  by_cases h : n < (l.length : Int)
  · rw [if_pos (by omega), if_pos h]
  · rw [if_neg (by omega), if_neg h]

/-! marks in accesses -/
/-- A list of accesses whose numbers go up two by two from a on, as far as index i. -/
def UptoA (a : Int) (n : Nat) (xs : List S32) (i : Nat) : Prop := xs.length = n ∧ ∀ j, j < i → xs.getD j z32 = ⟨a + 2 * (j : Int), a + 2 * (j : Int) + 1⟩
theorem uptoA_set {a : Int} {n i : Nat} {xs : List S32} (h : UptoA a n xs i) (hi : i < n) : UptoA a n (xs.set i ⟨a + 2 * (i : Int), a + 2 * (i : Int) + 1⟩) (i + 1) := by
  refine ⟨by rw [List.length_set]; exact h.1, fun j hj => ?_⟩
  have hl := h.1
  rw [gset _ _ _ _ _ (by omega)]
  by_cases e : i = j
  · subst e; rw [if_pos rfl]
  · rw [if_neg e]; exact h.2 j (by omega)
theorem markA_l (a : Int) (n : Nat) (h1 : 0 ≤ a) (h2 : a ≤ 1152921504606846976) (hn : n ≤ 140737488355328) (d : Nat) : ∀ (i : Nat) (xs : List S32), UptoA a n xs i → n - i = d → i ≤ n →
    ∃ ys, Ev (fun k => laws_markAccessS.l0 k xs (a + 2 * (i : Int)) (i : Int)) (a + 2 * (n : Int), ys) ∧ UptoA a n ys n := by
  induction d with
  | zero =>
    intro i xs h hd hi
    have e : i = n := by omega
    subst e
    have hl := h.1
    exact ⟨xs, ev_ret (fun k => by rw [laws_markAccessS.l0, if_neg (by omega)]), h⟩
  | succ d ih =>
    intro i xs h hd hi
    have hl := h.1
    obtain ⟨ys, e, hy⟩ := ih (i + 1) _ (uptoA_set h (by omega)) (by omega) (by omega)
    refine ⟨ys, Ev.step (fun k => ?_) e, hy⟩
    rw [laws_markAccessS.l0, if_pos (by omega), if_pos (by omega), Option.bind_some, rdA, rdA, gset _ _ _ _ _ (by rw [Int.toNat_natCast]; omega), Int.toNat_natCast, if_pos rfl, List.set_set,
      wid (x := a + 2 * (i : Int) + 1) (by omega) (by omega), wid (x := a + 2 * (i : Int) + 1 + 1) (by omega) (by omega), wid (x := (i : Int) + 1) (by omega) (by omega)]
    rw [show a + 2 * ((i + 1 : Nat) : Int) = a + 2 * (i : Int) + 1 + 1 by omega, show ((i + 1 : Nat) : Int) = (i : Int) + 1 by omega]
theorem mark_A (a : Int) (xs : List S32) (h1 : 0 ≤ a) (h2 : a ≤ 1152921504606846976) (hn : xs.length ≤ 140737488355328) :
    ∃ ys, Ev (fun k => laws_markAccessS.f k xs a) (a + 2 * (xs.length : Int), ys) ∧ UptoA a xs.length ys xs.length := by
  obtain ⟨ys, e, hy⟩ := markA_l a xs.length h1 h2 hn xs.length 0 xs ⟨rfl, fun j hj => by omega⟩ (by omega) (by omega)
  exact ⟨ys, by simpa [laws_markAccessS.f] using e, hy⟩

/-- A list whose numbers go up one by one from a on, as far as index i. -/
def Upto (a : Int) (n : Nat) (xs : List Int) (i : Nat) : Prop := xs.length = n ∧ ∀ j, j < i → xs.getD j 0 = a + (j : Int)
theorem upto_set {a : Int} {n i : Nat} {xs : List Int} (h : Upto a n xs i) (hi : i < n) : Upto a n (xs.set i (a + (i : Int))) (i + 1) := by
  refine ⟨by rw [List.length_set]; exact h.1, fun j hj => ?_⟩
  have hl := h.1
  rw [List.getD_eq_getElem?_getD, List.getElem?_set]
  by_cases e : i = j
  · subst e
    rw [if_pos rfl, if_pos (by omega)]
    rfl
  · rw [if_neg e, ← List.getD_eq_getElem?_getD]
    exact h.2 j (by omega)
theorem mark_l (a : Int) (n : Nat) (h1 : 0 ≤ a) (h2 : a ≤ 4611686018427387904) (hn : n ≤ 140737488355328) (d : Nat) : ∀ (i : Nat) (xs : List Int), Upto a n xs i → n - i = d → i ≤ n →
    ∃ ys, Ev (fun k => laws_markInt64S.l0 k xs (a + (i : Int)) (i : Int)) (a + (n : Int), ys) ∧ Upto a n ys n := by
  induction d with
  | zero =>
    intro i xs h hd hi
    have e : i = n := by omega
    subst e
    have hl := h.1
    exact ⟨xs, ev_ret (fun k => by rw [laws_markInt64S.l0, if_neg (by omega)]), h⟩
  | succ d ih =>
    intro i xs h hd hi
    have hl := h.1
    obtain ⟨ys, e, hy⟩ := ih (i + 1) _ (upto_set h (by omega)) (by omega) (by omega)
    refine ⟨ys, Ev.step (fun k => ?_) e, hy⟩
    rw [laws_markInt64S.l0, if_pos (by omega), if_pos (by omega), wid (x := a + (i : Int) + 1) (by omega) (by omega), wid (x := (i : Int) + 1) (by omega) (by omega), Int.toNat_natCast]
    rw [show a + ((i + 1 : Nat) : Int) = a + (i : Int) + 1 by omega, show ((i + 1 : Nat) : Int) = (i : Int) + 1 by omega]
theorem held_l (a : Int) (n : Nat) (ys : List Int) (h1 : 0 ≤ a) (h2 : a ≤ 4611686018427387904) (hn : n ≤ 140737488355328) (h : Upto a n ys n) (d : Nat) : ∀ (i : Nat), n - i = d → i ≤ n →
    Ev (fun k => laws_heldInt64S.l0 k ys (a + (i : Int)) (i : Int)) (a + (n : Int)) := by
  have hl := h.1
  induction d with
  | zero =>
    intro i hd hi
    have e : i = n := by omega
    subst e
    exact ev_ret (fun k => by rw [laws_heldInt64S.l0, if_neg (by omega)])
  | succ d ih =>
    intro i hd hi
    refine Ev.step (fun k => ?_) (ih (i + 1) (by omega) (by omega))
    have hr : rd ys (i : Int) = a + (i : Int) := by unfold rd; rw [Int.toNat_natCast]; exact h.2 i (by omega)
    rw [laws_heldInt64S.l0, if_pos (by omega), if_pos (by omega), if_pos hr, wid (x := a + (i : Int) + 1) (by omega) (by omega), wid (x := (i : Int) + 1) (by omega) (by omega)]
    rw [show a + ((i + 1 : Nat) : Int) = a + (i : Int) + 1 by omega, show ((i + 1 : Nat) : Int) = (i : Int) + 1 by omega]
/-- What is marked is held. -/
theorem mark_held (a : Int) (xs : List Int) (h1 : 0 ≤ a) (h2 : a ≤ 4611686018427387904) (hn : xs.length ≤ 140737488355328) :
    ∃ ys, Ev (fun k => laws_markInt64S.f k xs a) (a + (xs.length : Int), ys) ∧ Ev (fun k => laws_heldInt64S.f k ys a) (a + (xs.length : Int)) := by
  obtain ⟨ys, e, hy⟩ := mark_l a xs.length h1 h2 hn xs.length 0 xs ⟨rfl, fun j hj => by omega⟩ (by omega) (by omega)
  have e2 := held_l a xs.length ys h1 h2 hn hy xs.length 0 (by omega) (by omega)
  refine ⟨ys, ?_, ?_⟩
  · simpa [laws_markInt64S.f] using e
  · simpa [laws_heldInt64S.f] using e2

/-- A list is equal to itself. -/
theorem eqs_l (a : List Int) (ha : a.length ≤ 140737488355328) (d : Nat) : ∀ (i : Int), 0 ≤ i → (a.length : Int) - i = d → Ev (fun k => laws_eqInt64S.l0 k a a i) true := by
  induction d with
  | zero => intro i h0 hd; exact ev_ret (fun k => by rw [laws_eqInt64S.l0, if_neg (by omega)])
  | succ d ih =>
    intro i h0 hd
    refine Ev.step (fun k => ?_) (ih (i + 1) (by omega) (by omega))
    rw [laws_eqInt64S.l0, if_pos (by omega), if_pos h0, if_pos (by omega), if_pos rfl, wid (x := i + 1) (by omega) (by omega)]
theorem eqs (a : List Int) (ha : a.length ≤ 140737488355328) : Ev (fun k => laws_eqInt64S.f k a a) true := by
  unfold laws_eqInt64S.f
  simp only [if_true]
  exact eqs_l a ha a.length 0 (by omega) (by omega)

theorem spec_lines_l (l : List S32) (hl : l.length ≤ 60) (d : Nat) : ∀ (i : Nat) (acc : List Int), l.length - i = d → i ≤ l.length → acc.length ≤ i → Ev (fun k => spec_l02Lines.l0 k l acc (i : Int)) (acc ++ (l.drop i).map (fun x => x.f1)) := by
  induction d with
  | zero =>
    intro i acc hd hi ha
    rw [List.drop_eq_nil_of_le (by omega), List.map_nil, List.append_nil]
    exact ev_ret (fun k => by rw [spec_l02Lines.l0, if_neg (by omega)])
  | succ d ih =>
    intro i acc hd hi ha
    have hx := ih (i + 1) (acc ++ [(l.getD i z32).f1]) (by omega) (by omega) (by simp; omega)
    rw [show ((i + 1 : Nat) : Int) = (i : Int) + 1 by omega, ← List.append_cons] at hx
    rw [gdrop z32 l i (by omega), List.map_cons]
    refine Ev.step (fun k => ?_) hx
    rw [spec_l02Lines.l0, if_pos (by omega), if_pos (by omega), if_pos (by omega), rdA, wid (x := (i : Int) + 1) (by omega) (by omega)]
theorem impl_lines_l (l : List S32) (hl : l.length ≤ 60) (d : Nat) : ∀ (i : Nat) (acc : List Int), l.length - i = d → i ≤ l.length → acc.length ≤ i → Ev (fun k => impl_usesOf.l0 k acc l (l.length : Int) (i : Int)) (acc ++ (l.drop i).map (fun x => x.f1)) := by
  induction d with
  | zero =>
    intro i acc hd hi ha
    rw [List.drop_eq_nil_of_le (by omega), List.map_nil, List.append_nil]
    exact ev_ret (fun k => by rw [impl_usesOf.l0, if_neg (by omega)])
  | succ d ih =>
    intro i acc hd hi ha
    have hx := ih (i + 1) (acc ++ [(l.getD i z32).f1]) (by omega) (by omega) (by simp; omega)
    rw [show ((i + 1 : Nat) : Int) = (i : Int) + 1 by omega, ← List.append_cons] at hx
    rw [gdrop z32 l i (by omega), List.map_cons]
    refine Ev.step (fun k => ?_) hx
    rw [impl_usesOf.l0, if_pos (by omega), if_pos (by omega), if_pos (by omega), if_pos (by omega), rdA, wid (x := (i : Int) + 1) (by omega) (by omega)]
theorem bothU (l : List S32) (hl : l.length ≤ 1048576) : ∃ r, Ev (fun k => spec_UsesOf.f k l) r ∧ Ev (fun k => impl_UsesOf.f k l) r ∧ r.1.length ≤ 1000000 := by
  unfold spec_UsesOf.f impl_UsesOf.f
  simp only [impl_trace, Option.bind_some]
  by_cases h : traceOk l = true
  · have hn := traceOk_len h
    refine ⟨(l.map (fun x => x.f1), true), ?_, ?_, by simp; omega⟩
    · refine Ev.bind (spec_trace l (by omega)) ?_
      simp only [if_pos h]
      refine Ev.bind (?_ : Ev (fun k => spec_l02Lines.f k l) (l.map (fun x => x.f1))) (Ev.now _)
      exact spec_lines_l l hn l.length 0 [] (by omega) (by omega) (by simp)
    · simp only [if_pos h]
      refine Ev.bind (?_ : Ev (fun k => impl_usesOf.f k l) (l.map (fun x => x.f1))) (Ev.now _)
      exact impl_lines_l l hn l.length 0 [] (by omega) (by omega) (by simp)
  · refine ⟨([], false), ?_, ?_, by simp⟩
    · refine Ev.bind (spec_trace l (by omega)) ?_
      simp only [if_neg h]
      exact Ev.now _
    · simp only [if_neg h]
      exact Ev.now _
theorem FnExactUsesOf : laws_FnExactUsesOf.Pure := by
  intro l hl
  refine Ev.rounds (r := true) ?_
  unfold laws_FnExactUsesOf.f
  simp only [szA l 1048576 (by omega) (by omega) hl.1, Option.bind_some]
  by_cases hb : (1048576 : Int) < (l.length : Int)
  · simp only [if_pos hb, if_pos (show (-1 : Int) < 0 by omega)]; exact Ev.now _
  simp only [if_neg hb, if_neg (show ¬ (1048576 - (l.length : Int) < 0) by omega)]
  have et := toAcc l (by omega)
  have hm : (l.map conv).length = l.length := List.length_map ..
  obtain ⟨r, es, ei, hr⟩ := bothU (l.map conv) (by omega)
  obtain ⟨ys, hk, hh⟩ := mark_held 1 r.1 (by omega) (by omega) (by omega)
  obtain ⟨zs, hk2, _⟩ := mark_A 1 (l.map conv) (by omega) (by omega) (by omega)
  refine Ev.bind et (Ev.bind es (Ev.bind et (Ev.bind ei (Ev.bind (eqs _ (by omega)) ?_))))
  simp only [bne_self_eq_false, if_true]
  refine Ev.step (fun k => by rw [laws_FnExactUsesOf.j0, if_neg (by decide)]) ?_
  refine Ev.bind et (Ev.bind (eqA _ (by omega)) ?_)
  simp only [if_true]
  refine Ev.bind hk2 ?_
  simp only [if_neg (show ¬ (1 + 2 * ((l.map conv).length : Int) < 0) by omega)]
  refine Ev.bind (eqs _ (by omega)) ?_
  simp only [bne_self_eq_false, if_true]
  refine Ev.step (fun k => by rw [laws_FnExactUsesOf.j1, if_neg (by decide)]) ?_
  refine Ev.bind hk (Ev.bind hh ?_)
  simp only [if_neg (show ¬ (1 + (r.1.length : Int) < 0) by omega), if_true]
  refine Ev.bind et (Ev.bind ei (Ev.bind (eqs _ (by omega)) ?_))
  simp only [bne_self_eq_false, if_true]
  refine Ev.step (fun k => by rw [laws_FnExactUsesOf.j2, if_neg (by decide)]) ?_
  refine Ev.bind hh (ev_all fun k => ?_)
  rw [if_neg (by omega), if_pos rfl]

end Go.Proofs.Ytbdedpodbnhkfaa.Pure
