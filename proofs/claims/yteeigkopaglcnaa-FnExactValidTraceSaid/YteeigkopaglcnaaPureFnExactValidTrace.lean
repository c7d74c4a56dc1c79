/- The program's ValidTrace returns what the reference's returns, for every list of accesses, and leaves it alone. Conditions: those of the row alone. -/
import Derived.Test.YteeigkopaglcnaaPFnExactValidTracey
namespace Go.Proofs.Yteeigkopaglcnaa.Pure
open Go.RowKit Go.Proofs.Yteeigkopaglcnaa.PFnExactValidTrace Go.Proofs.YteeigkopaglcnaaW.PrintWords Go.Proofs.YteeigkopaglcnaaW.PrintLast Go.Proofs.YteeigkopaglcnaaW.PrintMore
set_option linter.unusedVariables false
set_option linter.unusedSimpArgs false

theorem wid {x : Int} (h1 : -9223372036854775808 ≤ x) (h2 : x < 9223372036854775808) : wrap64 x = x := by unfold wrap64; omega
theorem i64_bd {x : Int} (h : (Lit.int .i64 x).wf = true) : -9223372036854775808 ≤ x ∧ x ≤ 9223372036854775807 := by
  simp only [Lit.wf, IntKind.min, IntKind.max, IntKind.signed, IntKind.bits, Bool.and_eq_true, decide_eq_true_eq, if_true] at h
  omega
/-- A loop's step, its answer known at once. -/
theorem ev_ret {α : Type} {g : Nat → Option α} {r : α} (h : ∀ k, g (k + 1) = some r) : Ev g r := Ev.step (f := fun _ => some r) h (Ev.now r)
theorem ev_all {α : Type} {g : Nat → Option α} {r : α} (h : ∀ k, g k = some r) : Ev g r := ⟨0, fun k _ => h k⟩

theorem getD_set (xs : List Int) (i j : Nat) (v : Int) (hi : i < xs.length) : (xs.set i v).getD j 0 = if i = j then v else xs.getD j 0 := by
  rw [List.getD_eq_getElem?_getD, List.getElem?_set]
  by_cases e : i = j
  · subst e; rw [if_pos rfl, if_pos hi, if_pos rfl]; rfl
  · rw [if_neg e, if_neg e, List.getD_eq_getElem?_getD]
theorem ext_getD {xs ys : List Int} (h : xs.length = ys.length) (he : ∀ j, j < xs.length → xs.getD j 0 = ys.getD j 0) : xs = ys := by
  apply List.ext_getElem h
  intro j h1 h2
  have := he j h1
  rwa [List.getD_eq_getElem?_getD, List.getD_eq_getElem?_getD, List.getElem?_eq_getElem h1, List.getElem?_eq_getElem h2] at this
theorem rd_nat (xs : List Int) (i : Nat) : rd xs (i : Int) = xs.getD i 0 := by unfold rd; rw [Int.toNat_natCast]
theorem rd_mem (xs : List Int) (i : Nat) (h : i < xs.length) : rd xs (i : Int) ∈ xs := by
  rw [rd_nat, List.getD_eq_getElem?_getD, List.getElem?_eq_getElem h]
  exact List.getElem_mem _
theorem take_snoc (xs : List Int) (i : Nat) (h : i < xs.length) : xs.take (i + 1) = xs.take i ++ [rd xs (i : Int)] := by
  rw [List.take_succ_eq_append_getElem h, rd_nat, List.getD_eq_getElem?_getD, List.getElem?_eq_getElem h]
  rfl
theorem drop_cons (xs : List Int) (i : Nat) (h : i < xs.length) : xs.drop i = rd xs (i : Int) :: xs.drop (i + 1) := by
  rw [List.drop_eq_getElem_cons h, rd_nat, List.getD_eq_getElem?_getD, List.getElem?_eq_getElem h]
  rfl

theorem gset {α : Type} (d : α) (xs : List α) (i j : Nat) (v : α) (hi : i < xs.length) : (xs.set i v).getD j d = if i = j then v else xs.getD j d := by
  rw [List.getD_eq_getElem?_getD, List.getElem?_set]
  by_cases e : i = j
  · subst e; rw [if_pos rfl, if_pos hi, if_pos rfl]; rfl
  · rw [if_neg e, if_neg e, List.getD_eq_getElem?_getD]
theorem gext {α : Type} (d : α) {xs ys : List α} (h : xs.length = ys.length) (he : ∀ j, j < xs.length → xs.getD j d = ys.getD j d) : xs = ys := by
  apply List.ext_getElem h
  intro j h1 h2
  have := he j h1
  rwa [List.getD_eq_getElem?_getD, List.getD_eq_getElem?_getD, List.getElem?_eq_getElem h1, List.getElem?_eq_getElem h2] at this
theorem gmem {α : Type} (d : α) (xs : List α) (i : Nat) (h : i < xs.length) : xs.getD i d ∈ xs := by
  rw [List.getD_eq_getElem?_getD, List.getElem?_eq_getElem h]
  exact List.getElem_mem _
theorem gdrop {α : Type} (d : α) (xs : List α) (i : Nat) (h : i < xs.length) : xs.drop i = xs.getD i d :: xs.drop (i + 1) := by
  rw [List.drop_eq_getElem_cons h, List.getD_eq_getElem?_getD, List.getElem?_eq_getElem h]
  rfl
theorem gmap {α β : Type} (d : α) (e : β) (f : α → β) (xs : List α) (i : Nat) (h : i < xs.length) : (xs.map f).getD i e = f (xs.getD i d) := by
  rw [List.getD_eq_getElem?_getD, List.getD_eq_getElem?_getD, List.getElem?_map, List.getElem?_eq_getElem h]
  rfl

/-! accesses -/
theorem rdA (xs : List S61) (i : Nat) : rd_T61 xs (i : Int) = xs.getD i z61 := by unfold rd_T61; rw [Int.toNat_natCast]
theorem rdL (xs : List S63) (i : Nat) : rd_T63 xs (i : Int) = xs.getD i z63 := by unfold rd_T63; rw [Int.toNat_natCast]
/-- A law's access as the program has it. -/
def conv (x : S63) : S61 := ⟨x.f0, x.f1⟩
theorem toAcc_l (l : List S63) (hl : l.length ≤ 17592186044416) (d : Nat) : ∀ (i : Nat) (xs : List S61), xs.length = l.length → (∀ j, j < i → xs.getD j z61 = (l.map conv).getD j z61) → l.length - i = d → i ≤ l.length →
    Ev (fun k => laws_toAccessS.l0 k l xs (i : Int)) (l.map conv) := by
  induction d with
  | zero =>
    intro i xs hx h hd hi
    have e : xs = l.map conv := gext z61 (by rw [hx, List.length_map]) (fun j hj => h j (by omega))
    rw [← e]
    exact ev_ret (fun k => by rw [laws_toAccessS.l0, if_neg (by omega)])
  | succ d ih =>
    intro i xs hx h hd hi
    refine Ev.step (fun k => ?_) (ih (i + 1) (xs.set i (conv (l.getD i z63))) (by rw [List.length_set, hx]) (fun j hj => ?_) (by omega) (by omega))
    · rw [laws_toAccessS.l0, if_pos (by omega), if_pos (by omega)]
      unfold laws_toAccess.f
      rw [Option.bind_some, if_pos (by omega), Int.toNat_natCast, rdL, wid (x := (i : Int) + 1) (by omega) (by omega), show ((i + 1 : Nat) : Int) = (i : Int) + 1 by omega]
      rfl
    · rw [gset _ _ _ _ _ (by omega)]
      by_cases e : i = j
      · subst e; rw [if_pos rfl, gmap z63 z61 conv l i (by omega)]
      · rw [if_neg e]; exact h j (by omega)
theorem toAcc (l : List S63) (hl : l.length ≤ 17592186044416) : Ev (fun k => laws_toAccessS.f k l) (l.map conv) := by
  unfold laws_toAccessS.f
  simp only [if_pos (show (0 : Int) ≤ (l.length : Int) by omega), Int.toNat_natCast, if_pos hl]
  exact toAcc_l l hl l.length 0 _ (by rw [List.length_replicate]) (fun j hj => by omega) (by omega) (by omega)

def traceOk (l : List S61) : Bool := decide (l.length ≤ 60) && l.all accOk
theorem impl_trace (l : List S61) : impl_ValidTrace.f l = some (traceOk l) := rfl
theorem traceOk_len {l : List S61} (h : traceOk l = true) : l.length ≤ 60 := by
  unfold traceOk at h
  rw [Bool.and_eq_true] at h
  exact of_decide_eq_true h.1
theorem traceOk_mem {l : List S61} (h : traceOk l = true) {x : S61} (hx : x ∈ l) : 0 ≤ x.f0 ∧ x.f0 ≤ 1 ∧ 0 ≤ x.f1 ∧ x.f1 ≤ 63 := by
  unfold traceOk at h
  rw [Bool.and_eq_true, List.all_eq_true] at h
  exact of_decide_eq_true (h.2 x hx)

theorem spec_acc (x : S61) : ((spec_l02Kind.f x.f0).bind fun t => if t = true then (spec_l02Address.f x.f1).bind fun u => some u else some false) = some (accOk x) := by
  unfold spec_l02Kind.f spec_l02Address.f spec_l00In.f accOk
  by_cases h0 : x.f0 = 0
  · by_cases h1 : 0 ≤ x.f1 <;> by_cases h2 : x.f1 ≤ 63 <;> simp [h0, h1, h2]
  · by_cases h3 : x.f0 = 1
    · by_cases h1 : 0 ≤ x.f1 <;> by_cases h2 : x.f1 ≤ 63 <;> simp [h3, h1, h2]
    · have : ¬ (0 ≤ x.f0 ∧ x.f0 ≤ 1 ∧ 0 ≤ x.f1 ∧ x.f1 ≤ 63) := by omega
      simp [h0, h3, this]
theorem spec_trace_l (l : List S61) (hl : l.length ≤ 140737488355328) (d : Nat) : ∀ (i : Nat), l.length - i = d → i ≤ l.length → Ev (fun k => spec_l02Is.l0 k l (i : Int)) (decide (l.length ≤ 60) && (l.drop i).all accOk) := by
  induction d with
  | zero =>
    intro i hd hi
    rw [List.drop_eq_nil_of_le (by omega), List.all_nil, Bool.and_true]
    refine ev_ret (fun k => ?_)
    rw [spec_l02Is.l0, if_neg (by omega)]
    by_cases h : l.length ≤ 60
    · rw [decide_eq_true h, decide_eq_true (by omega)]
    · rw [decide_eq_false h, decide_eq_false (by omega)]
  | succ d ih =>
    intro i hd hi
    rw [gdrop z61 l i (by omega), List.all_cons]
    have ha := spec_acc (l.getD i z61)
    have e1 := ih (i + 1) (by omega) (by omega)
    rw [show ((i + 1 : Nat) : Int) = (i : Int) + 1 by omega] at e1
    obtain ⟨b1, hb1⟩ : ∃ b, spec_l02Kind.f (l.getD i z61).f0 = some b := by unfold spec_l02Kind.f; split <;> exact ⟨_, rfl⟩
    obtain ⟨b2, hb2⟩ : ∃ b, spec_l02Address.f (l.getD i z61).f1 = some b := by unfold spec_l02Address.f spec_l00In.f; split <;> exact ⟨_, rfl⟩
    rw [hb1, hb2] at ha
    cases b1 with
    | false =>
      have ha2 : accOk (l.getD i z61) = false := by simpa using ha.symm
      rw [ha2, Bool.false_and, Bool.and_false]
      exact ev_ret (fun k => by rw [spec_l02Is.l0, if_pos (by omega), if_pos (by omega), rdA, hb1, Option.bind_some, if_neg (by decide)])
    | true =>
      cases b2 with
      | false =>
        have ha2 : accOk (l.getD i z61) = false := by simpa using ha.symm
        rw [ha2, Bool.false_and, Bool.and_false]
        exact ev_ret (fun k => by rw [spec_l02Is.l0, if_pos (by omega), if_pos (by omega), rdA, hb1, Option.bind_some, if_pos rfl, hb2, Option.bind_some, if_neg (by decide)])
      | true =>
        have ha2 : accOk (l.getD i z61) = true := by simpa using ha.symm
        rw [ha2, Bool.true_and]
        refine Ev.step (fun k => ?_) e1
        rw [spec_l02Is.l0, if_pos (by omega), if_pos (by omega), rdA, hb1, Option.bind_some, if_pos rfl, hb2, Option.bind_some, if_pos rfl, wid (x := (i : Int) + 1) (by omega) (by omega)]
theorem spec_trace (l : List S61) (hl : l.length ≤ 140737488355328) : Ev (fun k => spec_l02Is.f k l) (traceOk l) := spec_trace_l l hl l.length 0 (by omega) (by omega)

theorem eqA_l (a : List S61) (ha : a.length ≤ 140737488355328) (d : Nat) : ∀ (i : Int), 0 ≤ i → (a.length : Int) - i = d → Ev (fun k => laws_eqAccessS.l0 k a a i) true := by
  induction d with
  | zero => intro i h0 hd; exact ev_ret (fun k => by rw [laws_eqAccessS.l0, if_neg (by omega)])
  | succ d ih =>
    intro i h0 hd
    refine Ev.step (fun k => ?_) (ih (i + 1) (by omega) (by omega))
    rw [laws_eqAccessS.l0, if_pos (by omega), if_pos h0, if_pos (by omega)]
    unfold laws_eqAccess.f
    rw [if_pos rfl, if_pos rfl, Option.bind_some, if_pos rfl, wid (x := i + 1) (by omega) (by omega)]
theorem eqA (a : List S61) (ha : a.length ≤ 140737488355328) : Ev (fun k => laws_eqAccessS.f k a a) true := by
  unfold laws_eqAccessS.f
  simp only [if_true]
  exact eqA_l a ha a.length 0 (by omega) (by omega)

theorem szA (l : List S63) (n : Int) (h0 : 0 ≤ n) (hn : n ≤ 1048576) (hl : l.length ≤ 9223372036854775807) : laws_szAccessS.f l n = some (if n < (l.length : Int) then -1 else n - (l.length : Int)) := by
  unfold laws_szAccessS.f
  rw [wid (by omega) (by omega)]
  by_cases h : n < (l.length : Int)
  · rw [if_pos (by omega), if_pos h]
  · rw [if_neg (by omega), if_neg h]

theorem FnExactValidTrace : laws_FnExactValidTrace.Pure := by
  intro l hl
  refine Ev.rounds (r := true) ?_
  unfold laws_FnExactValidTrace.f
  simp only [szA l 1048576 (by omega) (by omega) hl.1, Option.bind_some]
  by_cases hb : (1048576 : Int) < (l.length : Int)
  · simp only [if_pos hb, if_pos (show (-1 : Int) < 0 by omega)]; exact Ev.now _
  simp only [if_neg hb, if_neg (show ¬ (1048576 - (l.length : Int) < 0) by omega)]
  have et := toAcc l (by omega)
  have hm : (l.map conv).length = l.length := List.length_map ..
  have es : Ev (fun k => spec_ValidTrace.f k (l.map conv)) (traceOk (l.map conv)) := by
    unfold spec_ValidTrace.f
    exact Ev.bind (spec_trace _ (by omega)) (Ev.now _)
  refine Ev.bind et (Ev.bind es (Ev.bind et ?_))
  simp only [impl_trace, Option.bind_some, bne_self_eq_false, if_neg (show ¬ (false = true) by decide)]
  refine Ev.bind et (Ev.bind (eqA _ (by omega)) (ev_all fun k => ?_))
  rw [if_pos rfl]

end Go.Proofs.Yteeigkopaglcnaa.Pure
