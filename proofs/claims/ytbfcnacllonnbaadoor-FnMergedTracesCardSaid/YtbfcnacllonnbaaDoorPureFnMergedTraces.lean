/- Traces are read back from their texts, and a merged trace has the accesses of both in their orders. Conditions: those of the card alone. -/
import Derived.Test.YtbfcnacllonnbaaDoorPFnMergedTracesy
namespace Go.Proofs.YtbfcnacllonnbaaDoor.Pure
open Go.RowKit Go.Proofs.YtbfcnacllonnbaaDoor.PFnMergedTraces Go.Proofs.YtbfcnacllonnbaaDoorW.PrintWords Go.Proofs.YtbfcnacllonnbaaDoorW.PrintLast Go.Proofs.YtbfcnacllonnbaaDoorW.PrintMore
set_option linter.unusedVariables false
set_option linter.unusedSimpArgs false

theorem wid {x : Int} (h1 : -9223372036854775808 ≤ x) (h2 : x < 9223372036854775808) : wrap64 x = x := by unfold wrap64; omega
theorem i64_bd {x : Int} (h : (Lit.int .i64 x).wf = true) : -9223372036854775808 ≤ x ∧ x ≤ 9223372036854775807 := by
  simp only [Lit.wf, IntKind.min, IntKind.max, IntKind.signed, IntKind.bits, Bool.and_eq_true, decide_eq_true_eq, if_true] at h
  omega
/-- A loop's step, its answer known at once. -/
theorem ev_ret {α : Type} {g : Nat → Option α} {r : α} (h : ∀ k, g (k + 1) = some r) : Ev g r := Ev.step (f := fun _ => some r) h (Ev.now r)
theorem ev_all {α : Type} {g : Nat → Option α} {r : α} (h : ∀ k, g k = some r) : Ev g r := ⟨0, fun k _ => h k⟩

/-! the decimal numeral -/
theorem dd_big {u : Nat} (h : ¬ u < 10) : Go.Lib.decDigits u = Go.Lib.decDigits (u / 10) ++ [UInt8.ofNat (48 + u % 10)] := by rw [Go.Lib.decDigits, dif_neg h]
theorem dd_ind {p : Nat → Prop} (h1 : ∀ u, u < 10 → p u) (h2 : ∀ u, ¬ u < 10 → p (u / 10) → p u) (u : Nat) : p u := by
  induction u using Nat.strongRecOn with
  | _ u ih =>
    by_cases h : u < 10
    · exact h1 u h
    · exact h2 u h (ih (u / 10) (by omega))
theorem dg_nat {d : Nat} (h : d < 10) : (UInt8.ofNat (48 + d)).toNat = 48 + d := by
  have e : (UInt8.ofNat (48 + d)).toNat = (48 + d) % 256 := rfl
  rw [e]; omega
theorem dd_ne (u : Nat) : Go.Lib.decDigits u ≠ [] := by
  refine dd_ind (p := fun u => Go.Lib.decDigits u ≠ []) (fun u h => ?_) (fun u h _ => ?_) u
  · rw [Go.Lib.decDigits_one h]; simp
  · rw [dd_big h]; simp
theorem dd_dig (u : Nat) : ∀ c ∈ Go.Lib.decDigits u, 48 ≤ c.toNat ∧ c.toNat ≤ 57 := by
  refine dd_ind (p := fun u => ∀ c ∈ Go.Lib.decDigits u, 48 ≤ c.toNat ∧ c.toNat ≤ 57) (fun u h c hc => ?_) (fun u h ih c hc => ?_) u
  · rw [Go.Lib.decDigits_one h, List.mem_singleton] at hc
    rw [hc, dg_nat h]; omega
  · rw [dd_big h, List.mem_append, List.mem_singleton] at hc
    rcases hc with hc | hc
    · exact ih c hc
    · rw [hc, dg_nat (by omega)]; omega
def vl (a : Nat) (l : List UInt8) : Nat := l.foldl (fun a c => a * 10 + (c.toNat - 48)) a
theorem vl_cons (a : Nat) (c : UInt8) (l : List UInt8) : vl a (c :: l) = vl (a * 10 + (c.toNat - 48)) l := by unfold vl; rw [List.foldl_cons]
theorem vl_app (a : Nat) (l : List UInt8) (c : UInt8) : vl a (l ++ [c]) = vl a l * 10 + (c.toNat - 48) := by unfold vl; rw [List.foldl_append]; rfl
theorem vl_dd (u : Nat) : vl 0 (Go.Lib.decDigits u) = u := by
  refine dd_ind (p := fun u => vl 0 (Go.Lib.decDigits u) = u) (fun u h => ?_) (fun u h ih => ?_) u
  · rw [Go.Lib.decDigits_one h, vl_cons, dg_nat h]
    show 0 * 10 + (48 + u - 48) = u
    omega
  · rw [dd_big h, vl_app, ih, dg_nat (by omega)]; omega
theorem vl_ge : ∀ (l : List UInt8) (a : Nat), a ≤ vl a l
  | [], a => Nat.le_refl _
  | c :: l, a => by have := vl_ge l (a * 10 + (c.toNat - 48)); rw [vl_cons]; omega
theorem pu_ok : ∀ (l : List UInt8) (acc : Nat), (∀ c ∈ l, 48 ≤ c.toNat ∧ c.toNat ≤ 57) → vl acc l ≤ 1000000000000000000 → Go.Lib.parseUintM (2 ^ 64 - 1) acc l = .ok (vl acc l)
  | [], acc, _, _ => rfl
  | c :: l, acc, h, hv => by
    have hc := h c (List.mem_cons_self ..)
    have hg := vl_ge l (acc * 10 + (c.toNat - 48))
    rw [vl_cons] at hv
    rw [Go.Lib.parseUintM, if_pos hc, if_neg (by omega), if_neg (by omega), vl_cons]
    exact pu_ok l _ (fun c hc => h c (List.mem_cons_of_mem _ hc)) hv
theorem dd_len {u k : Nat} (h : u < 10 ^ (k + 1)) : (Go.Lib.decDigits u).length ≤ k + 1 := by
  induction k generalizing u with
  | zero => rw [Go.Lib.decDigits_one (by simpa using h)]; simp
  | succ k ih =>
    by_cases c : u < 10
    · rw [Go.Lib.decDigits_one c]; simp
    · rw [dd_big c, List.length_append, List.length_singleton]
      have := ih (u := u / 10) (by rw [Nat.pow_succ] at h; omega)
      omega
theorem itoa_len {n : Int} (h1 : -1000000000 ≤ n) (h2 : n ≤ 1000000000) : (Go.Lib.itoa n).length ≤ 11 := by
  unfold Go.Lib.itoa
  split
  · rw [List.length_cons]
    have := dd_len (u := n.natAbs) (k := 9) (by omega)
    omega
  · have := dd_len (u := n.toNat) (k := 9) (by omega)
    omega
theorem itoa_ne (n : Int) : Go.Lib.itoa n ≠ [] := by
  unfold Go.Lib.itoa
  split
  · simp
  · exact dd_ne _
/-- The numeral is read back. -/
theorem parse_itoa {n : Int} (h1 : -1000000000 ≤ n) (h2 : n ≤ 1000000000) : Go.Lib.parseIntB 64 (Go.Lib.itoa n) = .ok n := by
  unfold Go.Lib.itoa
  by_cases c : n < 0
  · rw [if_pos c]
    have e := pu_ok (Go.Lib.decDigits n.natAbs) 0 (dd_dig _) (by rw [vl_dd]; omega)
    rw [vl_dd] at e
    have e2 : Go.Lib.parseUintB 64 (Go.Lib.decDigits n.natAbs) = .ok n.natAbs := by unfold Go.Lib.parseUintB; rw [if_neg (dd_ne _)]; exact e
    unfold Go.Lib.parseIntB
    simp only [show ((45 : UInt8).toNat = 43 ∨ (45 : UInt8).toNat = 45) from Or.inr rfl, if_true, e2]
    rw [if_neg (by rintro ⟨h, -⟩; exact h rfl), if_neg (by rintro ⟨-, h⟩; simp at h; omega), if_pos (show (45 : UInt8).toNat = 45 from rfl)]
    congr 1
    omega
  · rw [if_neg c]
    have e := pu_ok (Go.Lib.decDigits n.toNat) 0 (dd_dig _) (by rw [vl_dd]; omega)
    rw [vl_dd] at e
    have e2 : Go.Lib.parseUintB 64 (Go.Lib.decDigits n.toNat) = .ok n.toNat := by unfold Go.Lib.parseUintB; rw [if_neg (dd_ne _)]; exact e
    have hd := dd_dig n.toNat
    generalize Go.Lib.decDigits n.toNat = l at e2 hd
    cases l with
    | nil => exact absurd e2 (by unfold Go.Lib.parseUintB; rw [if_pos rfl]; simp)
    | cons x l =>
      have hx := hd x (List.mem_cons_self ..)
      unfold Go.Lib.parseIntB
      simp only [show ¬ (x.toNat = 43 ∨ x.toNat = 45) by omega, if_false, e2]
      rw [if_neg (by rintro ⟨-, h⟩; simp at h; omega), if_neg (by rintro ⟨h, -⟩; omega), if_neg (by omega)]
      congr 1
      omega
theorem itoa_inj {n m : Int} (h1 : -1000000000 ≤ n) (h2 : n ≤ 1000000000) (h3 : -1000000000 ≤ m) (h4 : m ≤ 1000000000) (h : Go.Lib.itoa n = Go.Lib.itoa m) : n = m := by
  have a := parse_itoa h1 h2
  rw [h, parse_itoa h3 h4] at a
  injection a with a
  exact a.symm
theorem ba_ext {a b : ByteArray} (h : a.data.toList = b.data.toList) : a = b := by
  cases a with | mk x => cases b with | mk y => exact congrArg ByteArray.mk (Array.toList_inj.1 h)
theorem ba_list (l : List UInt8) : (⟨l.toArray⟩ : ByteArray).data.toList = l := rfl
theorem ba_mk (s : ByteArray) : (⟨s.data.toList.toArray⟩ : ByteArray) = s := ba_ext rfl
theorem ba_size (s : ByteArray) : s.size = s.data.toList.length := by rw [Array.length_toList]; rfl
theorem bt_list (s : ByteArray) (i : Nat) (h : i < s.data.toList.length) : bt s (i : Int) = ((s.data.toList[i]'h).toNat : Int) := by
  have h' : i < s.size := by rw [ba_size]; exact h
  unfold bt
  rw [dif_pos (by rw [Int.toNat_natCast]; exact h')]
  simp only [Int.toNat_natCast, Array.getElem_toList]
  rfl
theorem bt_cons (s : ByteArray) (i : Nat) (c : UInt8) (l : List UInt8) (h : s.data.toList.drop i = c :: l) : i < s.size ∧ bt s (i : Int) = (c.toNat : Int) ∧ s.data.toList.drop (i + 1) = l := by
  have hl : i < s.data.toList.length := by
    have := congrArg List.length h
    rw [List.length_drop, List.length_cons] at this
    omega
  rw [List.drop_eq_getElem_cons hl] at h
  injection h with h1 h2
  refine ⟨by rw [ba_size]; exact hl, ?_, h2⟩
  rw [bt_list s i hl, h1]

/-! texts joined -/
theorem join_snoc (xs : List (List UInt8)) (h : xs ≠ []) (y s : List UInt8) : Go.Lib.join (xs ++ [y]) s = Go.Lib.join xs s ++ s ++ y := by
  cases xs with
  | nil => exact absurd rfl h
  | cons x r =>
    rw [List.cons_append, Go.Lib.join_cons, Go.Lib.join_cons]
    unfold Go.Lib.joinTail
    rw [List.map_append, List.flatten_append]
    simp
theorem join_len (c : Nat) : ∀ (xs : List (List UInt8)) (s : List UInt8), s.length ≤ 1 → (∀ x ∈ xs, x.length ≤ c) → (Go.Lib.join xs s).length ≤ (c + 1) * xs.length
  | [], s, _, _ => by rw [Go.Lib.join_nil]; simp
  | x :: r, s, hs, h => by
    rw [Go.Lib.join_cons, List.length_append, Go.Lib.joinTail_length]
    have hx := h x (List.mem_cons_self ..)
    have hl : ∀ (r : List (List UInt8)), (∀ x ∈ r, x.length ≤ c) → Go.Lib.lens r ≤ c * r.length := by
      intro r
      induction r with
      | nil => intro _; simp [Go.Lib.lens]
      | cons a r ih =>
        intro h
        have h1 := ih (fun x hx => h x (List.mem_cons_of_mem _ hx))
        have h2 := h a (List.mem_cons_self ..)
        unfold Go.Lib.lens at h1 ⊢
        rw [List.map_cons, List.sum_cons, List.length_cons, Nat.mul_succ]
        omega
    have h1 := hl r (fun x hx => h x (List.mem_cons_of_mem _ hx))
    have h2 : s.length * r.length ≤ 1 * r.length := Nat.mul_le_mul_right _ hs
    rw [List.length_cons, Nat.mul_succ, Nat.add_mul]
    omega
theorem join_ne (x : List UInt8) (r : List (List UInt8)) (s : List UInt8) (h : x ≠ []) : Go.Lib.join (x :: r) s ≠ [] := by
  rw [Go.Lib.join_cons]
  cases x with
  | nil => exact absurd rfl h
  | cons a x => simp

/-! texts and their bytes; the numeral's text -/
theorem str1 (x : Int) : strOfNums [x] = ⟨#[UInt8.ofNat x.toNat]⟩ := rfl
theorem ba_app (a b : ByteArray) : (a ++ b).data.toList = a.data.toList ++ b.data.toList := by
  rw [ByteArray.data_append, Array.toList_append]
theorem ba_len (a : ByteArray) : a.size = a.data.toList.length := ba_size a
/-- The numeral's text. -/
def decT (n : Int) : ByteArray := ⟨(Go.Lib.itoa n).toArray⟩

theorem impl_dec (n : Int) (h0 : -9223372036854775808 ≤ n) (h1 : n ≤ 9223372036854775807) : impl_Decimal.f n = some (decT n) := by unfold impl_Decimal.f; rw [if_pos ⟨h0, h1⟩]; rfl

theorem getD_set (xs : List Int) (i j : Nat) (v : Int) (hi : i < xs.length) : (xs.set i v).getD j 0 = if i = j then v else xs.getD j 0 := by
  rw [List.getD_eq_getElem?_getD, List.getElem?_set]
  by_cases e : i = j
  · subst e; rw [if_pos rfl, if_pos hi, if_pos rfl]; rfl
  · rw [if_neg e, if_neg e, List.getD_eq_getElem?_getD]
theorem ext_getD {xs ys : List Int} (h : xs.length = ys.length) (he : ∀ j, j < xs.length → xs.getD j 0 = ys.getD j 0) : xs = ys := by
  apply List.ext_getElem h
  intro j h1 h2
  have := he j h1
  rwa [List.getD_eq_getElem?_getD, List.getD_eq_getElem?_getD, List.getElem?_eq_getElem h1, List.getElem?_eq_getElem h2] at this
theorem rd_nat (xs : List Int) (i : Nat) : rd xs (i : Int) = xs.getD i 0 := by unfold rd; rw [Int.toNat_natCast]
theorem rd_mem (xs : List Int) (i : Nat) (h : i < xs.length) : rd xs (i : Int) ∈ xs := by
  rw [rd_nat, List.getD_eq_getElem?_getD, List.getElem?_eq_getElem h]
  exact List.getElem_mem _
theorem take_snoc (xs : List Int) (i : Nat) (h : i < xs.length) : xs.take (i + 1) = xs.take i ++ [rd xs (i : Int)] := by
  rw [List.take_succ_eq_append_getElem h, rd_nat, List.getD_eq_getElem?_getD, List.getElem?_eq_getElem h]
  rfl
theorem drop_cons (xs : List Int) (i : Nat) (h : i < xs.length) : xs.drop i = rd xs (i : Int) :: xs.drop (i + 1) := by
  rw [List.drop_eq_getElem_cons h, rd_nat, List.getD_eq_getElem?_getD, List.getElem?_eq_getElem h]
  rfl

theorem gset {α : Type} (d : α) (xs : List α) (i j : Nat) (v : α) (hi : i < xs.length) : (xs.set i v).getD j d = if i = j then v else xs.getD j d := by
  rw [List.getD_eq_getElem?_getD, List.getElem?_set]
  by_cases e : i = j
  · subst e; rw [if_pos rfl, if_pos hi, if_pos rfl]; rfl
  · rw [if_neg e, if_neg e, List.getD_eq_getElem?_getD]
theorem gext {α : Type} (d : α) {xs ys : List α} (h : xs.length = ys.length) (he : ∀ j, j < xs.length → xs.getD j d = ys.getD j d) : xs = ys := by
  apply List.ext_getElem h
  intro j h1 h2
  have := he j h1
  rwa [List.getD_eq_getElem?_getD, List.getD_eq_getElem?_getD, List.getElem?_eq_getElem h1, List.getElem?_eq_getElem h2] at this
theorem gmem {α : Type} (d : α) (xs : List α) (i : Nat) (h : i < xs.length) : xs.getD i d ∈ xs := by
  rw [List.getD_eq_getElem?_getD, List.getElem?_eq_getElem h]
  exact List.getElem_mem _
theorem gdrop {α : Type} (d : α) (xs : List α) (i : Nat) (h : i < xs.length) : xs.drop i = xs.getD i d :: xs.drop (i + 1) := by
  rw [List.drop_eq_getElem_cons h, List.getD_eq_getElem?_getD, List.getElem?_eq_getElem h]
  rfl
theorem gmap {α β : Type} (d : α) (e : β) (f : α → β) (xs : List α) (i : Nat) (h : i < xs.length) : (xs.map f).getD i e = f (xs.getD i d) := by
  rw [List.getD_eq_getElem?_getD, List.getD_eq_getElem?_getD, List.getElem?_map, List.getElem?_eq_getElem h]
  rfl

/-! accesses -/
theorem rdA (xs : List S45) (i : Nat) : rd_T45 xs (i : Int) = xs.getD i z45 := by unfold rd_T45; rw [Int.toNat_natCast]

def traceOk (l : List S45) : Bool := decide (l.length ≤ 60) && l.all accOk
theorem impl_trace (l : List S45) : impl_ValidTrace.f l = some (traceOk l) := rfl
theorem traceOk_len {l : List S45} (h : traceOk l = true) : l.length ≤ 60 := by
  unfold traceOk at h
  rw [Bool.and_eq_true] at h
  exact of_decide_eq_true h.1
theorem traceOk_mem {l : List S45} (h : traceOk l = true) {x : S45} (hx : x ∈ l) : 0 ≤ x.f0 ∧ x.f0 ≤ 1 ∧ 0 ≤ x.f1 ∧ x.f1 ≤ 63 := by
  unfold traceOk at h
  rw [Bool.and_eq_true, List.all_eq_true] at h
  exact of_decide_eq_true (h.2 x hx)

/-! the words of a trace -/
def wordL (x : S45) (m : Nat) : List UInt8 := Go.Lib.itoa x.f1 ++ (if x.f0 = 1 then [119] else []) ++ (if 1 < m then 42 :: Go.Lib.itoa (m : Int) else [])
/-- How many lead that are like x. -/
def same (x : S45) : List S45 → Nat
  | [] => 0
  | y :: l => if ((y.f0 == x.f0) && (y.f1 == x.f1)) = true then same x l + 1 else 0
theorem same_le (x : S45) : ∀ (l : List S45), same x l ≤ l.length
  | [] => Nat.le_refl _
  | y :: l => by
    rw [same]
    have := same_le x l
    split
    · rw [List.length_cons]; omega
    · omega
/-- The words: n is at least the length. -/
def wds : Nat → List S45 → List (List UInt8)
  | 0, _ => []
  | _ + 1, [] => []
  | n + 1, x :: l => wordL x (same x l + 1) :: wds n (l.drop (same x l))
theorem wds_nil (n : Nat) : wds n [] = [] := by cases n <;> rfl
theorem wds_len : ∀ (n : Nat) (l : List S45), (wds n l).length ≤ l.length
  | 0, _ => by rw [wds]; simp
  | n + 1, [] => by rw [wds]; simp
  | n + 1, x :: l => by
    rw [wds, List.length_cons, List.length_cons]
    have := wds_len n (l.drop (same x l))
    rw [List.length_drop] at this
    omega
theorem wordL_len (x : S45) (m : Nat) (h1 : 0 ≤ x.f1 ∧ x.f1 ≤ 63) (hm : m ≤ 1000) : (wordL x m).length ≤ 24 := by
  unfold wordL
  have h2 := itoa_len (n := x.f1) (by omega) (by omega)
  have h3 := itoa_len (n := (m : Int)) (by omega) (by omega)
  rw [List.length_append, List.length_append]
  split <;> split <;> simp only [List.length_cons, List.length_nil] <;> omega
theorem wds_word : ∀ (n : Nat) (l : List S45), l.length ≤ 999 → (∀ x ∈ l, 0 ≤ x.f1 ∧ x.f1 ≤ 63) → ∀ w ∈ wds n l, w.length ≤ 24
  | 0, _, _, _, w, hw => by rw [wds] at hw; cases hw
  | n + 1, [], _, _, w, hw => by rw [wds] at hw; cases hw
  | n + 1, x :: l, hl, h, w, hw => by
    rw [wds] at hw
    rw [List.length_cons] at hl
    rcases List.mem_cons.1 hw with rfl | hw
    · have := same_le x l
      exact wordL_len x _ (h x (List.mem_cons_self ..)) (by omega)
    · exact wds_word n (l.drop (same x l)) (by rw [List.length_drop]; omega) (fun y hy => h y (List.mem_cons_of_mem _ (List.mem_of_mem_drop hy))) w hw
def mkB (l : List UInt8) : ByteArray := ⟨l.toArray⟩
def textT (t : List S45) : ByteArray := mkB (Go.Lib.join (wds t.length t) [32])

/-! the program's text of a trace -/
theorem ti_l1 (t : List S45) (ht : t.length ≤ 60) (P : List ByteArray) (i : Nat) (hi : i < t.length) {r : ByteArray} : ∀ (l : List S45) (j : Nat), t.drop j = l → j ≤ t.length → Ev (fun k => impl_traceText.j2 k t P (i : Int) ((j + same (t.getD i z45) l : Nat) : Int)) r → Ev (fun k => impl_traceText.l1 k t P (i : Int) (j : Int)) r
  | [], j, hd, hj, h => by
    have : j = t.length := by
      have := congrArg List.length hd
      rw [List.length_drop, List.length_nil] at this
      omega
    rw [same, Nat.add_zero] at h
    exact Ev.step (fun k => by rw [impl_traceText.l1, if_neg (by omega)]) h
  | y :: l, j, hd, hj, h => by
    have hl : j < t.length := by
      have := congrArg List.length hd
      rw [List.length_drop, List.length_cons] at this
      omega
    rw [gdrop z45 t j hl] at hd
    injection hd with h1 h2
    have e2 : wrap64 ((j : Int) + 1) = ((j + 1 : Nat) : Int) := by rw [wid (by omega) (by omega)]; omega
    rw [same] at h
    by_cases c : ((y.f0 == (t.getD i z45).f0) && (y.f1 == (t.getD i z45).f1)) = true
    · rw [if_pos c, show j + (same (t.getD i z45) l + 1) = (j + 1) + same (t.getD i z45) l by omega] at h
      refine Ev.step (fun k => ?_) (ti_l1 t ht P i hi l (j + 1) h2 (by omega) h)
      rw [impl_traceText.l1, if_pos (by omega), if_pos (by omega), if_pos (by omega), if_pos (by omega), rdA, rdA, h1, if_pos c, e2]
    · rw [if_neg c, Nat.add_zero] at h
      refine Ev.step (fun k => ?_) h
      rw [impl_traceText.l1, if_pos (by omega), if_pos (by omega), if_pos (by omega), if_pos (by omega), rdA, rdA, h1, if_neg c]
theorem ti_j2 (t : List S45) (ht : t.length ≤ 60) (P : List ByteArray) (i j : Nat) (hi : i < t.length) (hj : i < j) (hj2 : j ≤ 60) (hP : P.length ≤ 60) (x : S45) (hx : t.getD i z45 = x) (hb : 0 ≤ x.f1 ∧ x.f1 ≤ 63) {r : ByteArray} (h : Ev (fun k => impl_traceText.l0 k t (P ++ [mkB (wordL x (j - i))]) (j : Int)) r) :
    Ev (fun k => impl_traceText.j2 k t P (i : Int) (j : Int)) r := by
  refine Ev.step (fun k => ?_) h
  have hw : wrap64 ((j : Int) - (i : Int)) = ((j - i : Nat) : Int) := by rw [wid (by omega) (by omega)]; omega
  have s1 : (decT x.f1).size ≤ 11 := by rw [ba_size]; exact itoa_len (n := x.f1) (by omega) (by omega)
  have s2 : (decT ((j - i : Nat) : Int)).size ≤ 11 := by rw [ba_size]; exact itoa_len (n := ((j - i : Nat) : Int)) (by omega) (by omega)
  rw [impl_traceText.j2, if_pos (by omega), if_pos (by omega), rdA, hx, impl_dec _ (by omega) (by omega), Option.bind_some, hw]
  by_cases c : x.f0 = 1
  · rw [if_pos c, if_pos (by omega)]
    by_cases m : ((j - i : Nat) : Int) > 1
    · rw [if_pos m, impl_dec _ (by omega) (by omega), Option.bind_some, if_pos (by omega), if_pos (by rw [ByteArray.size_append, ByteArray.size_append]; show (decT x.f1).size + 1 + (1 + (decT ((j - i : Nat) : Int)).size) ≤ _; omega), if_pos (by omega)]
      have e : (decT x.f1 ++ (⟨#[119]⟩ : ByteArray)) ++ ((⟨#[42]⟩ : ByteArray) ++ decT ((j - i : Nat) : Int)) = mkB (wordL x (j - i)) := by
        apply ba_ext
        rw [ba_app, ba_app, ba_app]
        unfold wordL
        rw [if_pos c, if_pos (show 1 < j - i by omega)]
        rfl
      rw [e]
    · rw [if_neg m, if_pos (by omega)]
      have e : decT x.f1 ++ (⟨#[119]⟩ : ByteArray) = mkB (wordL x (j - i)) := by
        apply ba_ext
        rw [ba_app]
        unfold wordL
        rw [if_pos c, if_neg (show ¬ 1 < j - i by omega), List.append_nil]
        rfl
      rw [e]
  · rw [if_neg c]
    by_cases m : ((j - i : Nat) : Int) > 1
    · rw [if_pos m, impl_dec _ (by omega) (by omega), Option.bind_some, if_pos (by omega), if_pos (by rw [ByteArray.size_append]; show (decT x.f1).size + (1 + (decT ((j - i : Nat) : Int)).size) ≤ _; omega), if_pos (by omega)]
      have e : decT x.f1 ++ ((⟨#[42]⟩ : ByteArray) ++ decT ((j - i : Nat) : Int)) = mkB (wordL x (j - i)) := by
        apply ba_ext
        rw [ba_app, ba_app]
        unfold wordL
        rw [if_neg c, if_pos (show 1 < j - i by omega), List.append_nil]
        rfl
      rw [e]
    · rw [if_neg m, if_pos (by omega)]
      have e : decT x.f1 = mkB (wordL x (j - i)) := by
        apply ba_ext
        unfold wordL
        rw [if_neg c, if_neg (show ¬ 1 < j - i by omega), List.append_nil, List.append_nil]
        rfl
      rw [e]
theorem ti_l0 (t : List S45) (ht : t.length ≤ 60) (hv : ∀ x ∈ t, 0 ≤ x.f1 ∧ x.f1 ≤ 63) (n : Nat) : ∀ (i : Nat) (P : List (List UInt8)), t.length - i ≤ n → i ≤ t.length → P.length ≤ i → (∀ p ∈ P, p.length ≤ 24) →
    Ev (fun k => impl_traceText.l0 k t (P.map mkB) (i : Int)) (mkB (Go.Lib.join (P ++ wds n (t.drop i)) [32])) := by
  have fin : ∀ (i : Nat) (P : List (List UInt8)), i = t.length → P.length ≤ i → (∀ p ∈ P, p.length ≤ 24) → Ev (fun k => impl_traceText.l0 k t (P.map mkB) (i : Int)) (mkB (Go.Lib.join P [32])) := by
    intro i P hi hP hp
    refine ev_ret (fun k => ?_)
    have hj := join_len 24 P [32] (by simp) hp
    have e : (P.map mkB).map (fun x : ByteArray => x.data.toList) = P := by
      rw [List.map_map]
      exact List.map_id' P
    rw [impl_traceText.l0, if_neg (by omega)]
    unfold strings_Join.f
    rw [e, if_pos ⟨by rw [List.length_map]; omega, by show (Go.Lib.join P [32]).length ≤ _; omega⟩]
    rfl
  induction n with
  | zero =>
    intro i P hn hi hP hp
    rw [wds, List.append_nil]
    exact fin i P (by omega) hP hp
  | succ n ih =>
    intro i P hn hi hP hp
    by_cases c : i = t.length
    · rw [List.drop_eq_nil_of_le (by omega), wds, List.append_nil]
      exact fin i P c hP hp
    · have hl : i < t.length := by omega
      have hx := hv _ (gmem z45 t i hl)
      rw [gdrop z45 t i hl, wds]
      have hs := same_le (t.getD i z45) (t.drop (i + 1))
      rw [List.length_drop] at hs
      generalize hsv : same (t.getD i z45) (t.drop (i + 1)) = s at *
      have hd : (t.drop (i + 1)).drop s = t.drop (i + 1 + s) := by rw [List.drop_drop]
      rw [hd]
      have hw := wordL_len (t.getD i z45) (s + 1) hx (by omega)
      have h1 := ih (i + 1 + s) (P ++ [wordL (t.getD i z45) (s + 1)]) (by omega) (by omega) (by simp; omega) (fun p hp2 => by
        rcases List.mem_append.1 hp2 with h | h
        · exact hp p h
        · rw [List.mem_singleton] at h; rw [h]; exact hw)
      rw [List.append_assoc, List.singleton_append, List.map_append, List.map_cons, List.map_nil, show s + 1 = (i + 1 + s) - i by omega] at h1
      rw [show s + 1 = (i + 1 + s) - i by omega]
      have h2 := ti_j2 t ht (P.map mkB) i (i + 1 + s) hl (by omega) (by omega) (by simp; omega) _ rfl hx h1
      have h3 := ti_l1 t ht (P.map mkB) i hl (t.drop i) i rfl (by omega) (by
        rw [gdrop z45 t i hl, same, if_pos (by simp), hsv, show i + (s + 1) = i + 1 + s by omega]
        exact h2)
      refine Ev.step (fun k => ?_) h3
      rw [impl_traceText.l0, if_pos (by omega)]
theorem impl_textT (t : List S45) (h : traceOk t = true) : Ev (fun k => impl_traceText.f k t) (textT t) := by
  have := ti_l0 t (traceOk_len h) (fun x hx => (traceOk_mem h hx).2.2) t.length 0 [] (by omega) (by omega) (by simp) (fun p hp => by cases hp)
  exact this

/-! a text cut at a byte -/
def pcs (b : UInt8) : List UInt8 → List UInt8 → List (List UInt8)
  | cur, [] => [cur]
  | cur, c :: l => if c = b then cur :: pcs b [] l else pcs b (cur ++ [c]) l
theorem pcs_app (b : UInt8) : ∀ (a cur l : List UInt8), b ∉ a → pcs b cur (a ++ l) = pcs b (cur ++ a) l
  | [], cur, l, _ => by simp
  | c :: a, cur, l, h => by
    rw [List.cons_append, pcs, if_neg (fun e => h (by rw [e]; exact List.mem_cons_self ..)), pcs_app b a (cur ++ [c]) l (fun q => h (List.mem_cons_of_mem _ q))]
    simp
theorem pcs_len (b : UInt8) : ∀ (l cur w : List UInt8), w ∈ pcs b cur l → w.length ≤ cur.length + l.length
  | [], cur, w, h => by
    rw [pcs, List.mem_singleton] at h
    rw [h]; simp
  | c :: l, cur, w, h => by
    rw [pcs] at h
    split at h
    · rcases List.mem_cons.1 h with rfl | h
      · omega
      · have := pcs_len b l [] w h
        rw [List.length_nil] at this
        rw [List.length_cons]; omega
    · have := pcs_len b l (cur ++ [c]) w h
      rw [List.length_append, List.length_singleton] at this
      rw [List.length_cons]; omega
theorem occ1 (b : UInt8) (l : List UInt8) (i : Nat) : Go.Lib.occAt l [b] i = (l[i]? == some b) := by
  unfold Go.Lib.occAt
  by_cases h : i < l.length
  · rw [List.drop_eq_getElem_cons h, List.getElem?_eq_getElem h]
    simp only [List.isPrefixOf, Bool.and_true]
    rw [Bool.eq_iff_iff]
    simp only [beq_iff_eq, Option.some.injEq]
    exact eq_comm
  · rw [List.drop_eq_nil_of_le (by omega), List.getElem?_eq_none (by omega)]
    rfl
theorem idx_no (b : UInt8) (l : List UInt8) (h : b ∉ l) : Go.Lib.index l [b] = -1 := by
  refine Go.Lib.index_none (fun j _ => ?_)
  rw [occ1]
  by_cases hj : j < l.length
  · rw [List.getElem?_eq_getElem hj]
    have : l[j] ≠ b := fun e => h (by rw [← e]; exact List.getElem_mem _)
    simpa using this
  · rw [List.getElem?_eq_none (by omega)]; rfl
theorem idx_yes (b : UInt8) (a r : List UInt8) (h : b ∉ a) : Go.Lib.index (a ++ b :: r) [b] = (a.length : Int) := by
  refine Go.Lib.index_first (by simp) ?_ (fun j hj => ?_)
  · rw [occ1, List.getElem?_append_right (Nat.le_refl _), Nat.sub_self]
    simp
  · rw [occ1, List.getElem?_append_left hj, List.getElem?_eq_getElem hj]
    have : a[j] ≠ b := fun e => h (by rw [← e]; exact List.getElem_mem _)
    simpa using this
theorem split_pcs (b : UInt8) (n : Nat) : ∀ (l : List UInt8), l.length ≤ n → Go.Lib.split l [b] = pcs b [] l := by
  induction n with
  | zero =>
    intro l hl
    have : l = [] := List.eq_nil_of_length_eq_zero (by omega)
    subst this
    unfold Go.Lib.split
    rw [Go.Lib.count_miss (idx_no b [] (by simp))]
    rfl
  | succ n ih =>
    intro l hl
    by_cases h : b ∈ l
    · obtain ⟨a, r, rfl, ha⟩ := List.eq_append_cons_of_mem h
      have hi := idx_yes b a r ha
      have hd : (a ++ b :: r).drop (a.length + 1) = r := by rw [← List.drop_drop, List.drop_left]; rfl
      unfold Go.Lib.split
      rw [Go.Lib.count_hit (by simp) hi, List.length_singleton, hd, Nat.add_comm 1, Go.Lib.splitK, if_neg (by rw [hi]; simp), hi, Int.toNat_natCast, Nat.add_zero, List.take_left, List.length_singleton, hd]
      rw [pcs_app b a [] _ ha, List.nil_append, pcs, if_pos rfl]
      congr 1
      rw [List.length_append, List.length_cons] at hl
      exact ih r (by omega)
    · unfold Go.Lib.split
      rw [Go.Lib.count_miss (idx_no b l h)]
      have := pcs_app b l [] [] h
      rw [List.append_nil, List.nil_append] at this
      rw [this]
      rfl

/-! ReadDecimal, the program's and the reference's -/
def isNum (s : ByteArray) (v : Int) : Prop := -1000000000 ≤ v ∧ v ≤ 1000000000 ∧ Go.Lib.itoa v = s.data.toList
theorem impl_rd_yes (s : ByteArray) (v : Int) (h : isNum s v) : impl_ReadDecimal.out s = (v, true) := by
  unfold impl_ReadDecimal.out
  rw [← h.2.2, parse_itoa h.1 h.2.1]
  show (if (-1000000000 ≤ v ∧ v ≤ 1000000000) ∧ (⟨(Go.Lib.itoa v).toArray⟩ : ByteArray).toList = s.toList then (v, true) else (0, false)) = (v, true)
  rw [if_pos ⟨⟨h.1, h.2.1⟩, by rw [ByteArray.toList_eq, ByteArray.toList_eq, h.2.2]⟩]
theorem impl_rd_no (s : ByteArray) (h : ∀ v, ¬ isNum s v) : impl_ReadDecimal.out s = (0, false) := by
  unfold impl_ReadDecimal.out
  split
  · rename_i v e
    rw [if_neg]
    rintro ⟨⟨a, b⟩, c⟩
    rw [ByteArray.toList_eq, ByteArray.toList_eq] at c
    exact h v ⟨a, b, c⟩
  · rfl
theorem impl_rd (s : ByteArray) (hs : s.size ≤ 140737488351232) : impl_ReadDecimal.f s = some (impl_ReadDecimal.out s) := by unfold impl_ReadDecimal.f; rw [if_pos hs]

theorem impl_range (a b c : Int) : impl_inRange.f a b c = some (decide (b ≤ a) && decide (a ≤ c)) := by
  unfold impl_inRange.f
  by_cases h : b ≤ a
  · rw [if_pos h, decide_eq_true h, Bool.true_and]
  · rw [if_neg h, decide_eq_false h, Bool.false_and]

/-! ReadTrace, the program's -/
/-- The number of a word's accesses, and whether the word is one. -/
def cntW (w : List UInt8) : Int := if (Go.Lib.cut w [42]).2.2 = true then (impl_ReadDecimal.out (mkB (Go.Lib.cut w [42]).2.1)).1 else 1
def okW (w : List UInt8) : Bool := if (Go.Lib.cut w [42]).2.2 = true then (if (impl_ReadDecimal.out (mkB (Go.Lib.trimSuffix (Go.Lib.cut w [42]).1 [119]))).2 = true then (impl_ReadDecimal.out (mkB (Go.Lib.cut w [42]).2.1)).2 else false) else (impl_ReadDecimal.out (mkB (Go.Lib.trimSuffix (Go.Lib.cut w [42]).1 [119]))).2
def accW (w : List UInt8) : S45 := ⟨if Go.Lib.hasSuffix (Go.Lib.cut w [42]).1 [119] = true then 1 else 0, (impl_ReadDecimal.out (mkB (Go.Lib.trimSuffix (Go.Lib.cut w [42]).1 [119]))).1⟩
def rdT (s : ByteArray) : List S45 → List (List UInt8) → List S45 × Bool
  | acc, [] => if (textT acc).toList = s.toList then (acc, true) else ([], false)
  | acc, w :: ws => if okW w = true ∧ 1 ≤ cntW w ∧ cntW w ≤ 60 then (if traceOk (acc ++ List.replicate (cntW w).toNat (accW w)) = true then rdT s (acc ++ List.replicate (cntW w).toNat (accW w)) ws else ([], false)) else ([], false)
theorem cut_le (w : List UInt8) : (Go.Lib.cut w [42]).1.length ≤ w.length ∧ (Go.Lib.cut w [42]).2.1.length ≤ w.length := by
  unfold Go.Lib.cut
  split
  · refine ⟨?_, ?_⟩
    · show (w.take _).length ≤ _
      rw [List.length_take]; omega
    · show (w.drop _).length ≤ _
      rw [List.length_drop]; omega
  · exact ⟨Nat.le_refl _, Nat.zero_le _⟩
theorem rt_e0 (s : ByteArray) (W : List ByteArray) (acc : List S45) (i : Nat) (hi : i < W.length) (w : ByteArray) (hw : rdOf ByteArray.empty W (i : Int) = w) (hs : w.size ≤ 2000000) (k : Nat) :
    impl_ReadTrace.l0 (k + 1) s acc W (W.length : Int) (i : Int) = impl_ReadTrace.j1 k s acc (Go.Lib.hasSuffix (Go.Lib.cut w.data.toList [42]).1 [119]) (accW w.data.toList).f1 (okW w.data.toList) (cntW w.data.toList) W (W.length : Int) (i : Int) := by
  have c1 : strings_Cut.f w (⟨#[42]⟩ : ByteArray) = some (mkB (Go.Lib.cut w.data.toList [42]).1, mkB (Go.Lib.cut w.data.toList [42]).2.1, (Go.Lib.cut w.data.toList [42]).2.2) := by
    unfold strings_Cut.f
    rw [if_pos (by omega)]; rfl
  have hc := cut_le w.data.toList
  rw [← ba_size] at hc
  unfold okW cntW accW
  generalize Go.Lib.cut w.data.toList [42] = C at c1 hc ⊢
  obtain ⟨C1, C2, C3⟩ := C
  have hc : C1.length ≤ w.size ∧ C2.length ≤ w.size := hc
  have c2 : strings_CutSuffix.f (mkB C1) (⟨#[119]⟩ : ByteArray) = some (mkB (Go.Lib.trimSuffix C1 [119]), Go.Lib.hasSuffix C1 [119]) := by
    unfold strings_CutSuffix.f
    rw [if_pos (by rw [ba_size]; show C1.length ≤ _; have := hc.1; omega)]; rfl
  have c3 := Go.Lib.trimSuffix_le C1 [119]
  have r1 := impl_rd (mkB (Go.Lib.trimSuffix C1 [119])) (by rw [ba_size]; show (Go.Lib.trimSuffix C1 [119]).length ≤ _; have := hc.1; omega)
  have r2 := impl_rd (mkB C2) (by rw [ba_size]; show C2.length ≤ _; have := hc.2; omega)
  rw [impl_ReadTrace.l0, if_pos (by omega), if_pos (by omega), if_pos (by omega), hw, c1, Option.bind_some, c2, Option.bind_some, r1, Option.bind_some]
  show (if C3 = true then _ else _) = _
  generalize impl_ReadDecimal.out (mkB (Go.Lib.trimSuffix C1 [119])) = o1
  generalize impl_ReadDecimal.out (mkB C2) = o2 at r2
  by_cases h3 : C3 = true
  · rw [if_pos h3, r2, Option.bind_some]
    simp only [if_pos h3]
    by_cases h1 : o1.2 = true
    · rw [if_pos h1]; simp only [if_pos h1]
    · rw [if_neg h1]; simp only [if_neg h1]
  · rw [if_neg h3]
    simp only [if_neg h3]
theorem rt_one (s : ByteArray) (W : List ByteArray) (acc : List S45) (hacc : acc.length ≤ 60) (i : Nat) (hi : i < W.length) (hl : W.length ≤ 2000000) (w : ByteArray) (hw : rdOf ByteArray.empty W (i : Int) = w) (hs : w.size ≤ 2000000) {ws : List (List UInt8)}
    (ih : traceOk (acc ++ List.replicate (cntW w.data.toList).toNat (accW w.data.toList)) = true → Ev (fun k => impl_ReadTrace.l0 k s (acc ++ List.replicate (cntW w.data.toList).toNat (accW w.data.toList)) W (W.length : Int) ((i + 1 : Nat) : Int)) (rdT s (acc ++ List.replicate (cntW w.data.toList).toNat (accW w.data.toList)) ws)) :
    Ev (fun k => impl_ReadTrace.l0 k s acc W (W.length : Int) (i : Int)) (rdT s acc (w.data.toList :: ws)) := by
  have e2 : wrap64 ((i : Int) + 1) = ((i + 1 : Nat) : Int) := by rw [wid (by omega) (by omega)]; omega
  refine Ev.step (f := fun k => impl_ReadTrace.j1 k s acc (Go.Lib.hasSuffix (Go.Lib.cut w.data.toList [42]).1 [119]) (accW w.data.toList).f1 (okW w.data.toList) (cntW w.data.toList) W (W.length : Int) (i : Int)) (fun k => rt_e0 s W acc i hi w hw hs k) ?_
  rw [rdT]
  have hacc1 : (accW w.data.toList) = ⟨if Go.Lib.hasSuffix (Go.Lib.cut w.data.toList [42]).1 [119] = true then 1 else 0, (accW w.data.toList).f1⟩ := rfl
  generalize accW w.data.toList = x at *
  generalize cntW w.data.toList = c at *
  generalize okW w.data.toList = o at *
  generalize Go.Lib.hasSuffix (Go.Lib.cut w.data.toList [42]).1 [119] = hsx at *
  by_cases h1 : o = true
  case neg =>
    rw [if_neg (fun q => h1 q.1)]
    refine Ev.step (f := fun k => impl_ReadTrace.j2 k s acc hsx x.f1 c W (W.length : Int) (i : Int) true) (fun k => by rw [impl_ReadTrace.j1, if_neg h1]) ?_
    exact ev_ret (fun k => by rw [impl_ReadTrace.j2, if_pos rfl])
  by_cases h2 : 1 ≤ c ∧ c ≤ 60
  case neg =>
    rw [if_neg (fun q => h2 q.2)]
    refine Ev.step (f := fun k => impl_ReadTrace.j2 k s acc hsx x.f1 c W (W.length : Int) (i : Int) true) (fun k => ?_) ?_
    · rw [impl_ReadTrace.j1, if_pos h1, impl_range, Option.bind_some]
      have : (decide (1 ≤ c) && decide (c ≤ 60)) = false := by
        rw [Bool.and_eq_false_iff, decide_eq_false_iff_not, decide_eq_false_iff_not]; omega
      rw [this]; rfl
    · exact ev_ret (fun k => by rw [impl_ReadTrace.j2, if_pos rfl])
  rw [if_pos ⟨h1, h2⟩]
  obtain ⟨h3, h4⟩ := h2
  refine Ev.step (f := fun k => impl_ReadTrace.j2 k s acc hsx x.f1 c W (W.length : Int) (i : Int) false) (fun k => ?_) ?_
  · rw [impl_ReadTrace.j1, if_pos h1, impl_range, decide_eq_true h3, decide_eq_true h4, Option.bind_some]; rfl
  refine Ev.step (f := fun k => impl_ReadTrace.j3 k s acc c W (W.length : Int) (i : Int) x.f0 x.f1) (fun k => ?_) ?_
  · rw [impl_ReadTrace.j2, if_neg (by decide)]
    have hx0 : x.f0 = if hsx = true then 1 else 0 := by rw [hacc1]
    rw [hx0]
    by_cases hh : hsx = true
    · rw [if_pos hh, if_pos hh]
    · rw [if_neg hh, if_neg hh]
  have er : impl_Access_64.f ([(⟨x.f0, x.f1⟩ : S45)] : List (S45)) c = some (List.replicate c.toNat x) := by
    unfold impl_Access_64.f
    rw [if_pos ⟨rfl, h3, by omega⟩]; rfl
  have hlen : acc.length + (List.replicate c.toNat x).length < 8796093022208 := by rw [List.length_replicate]; omega
  by_cases h5 : traceOk (acc ++ List.replicate c.toNat x) = true
  · rw [if_pos h5]
    refine Ev.step (fun k => ?_) (ih h5)
    rw [impl_ReadTrace.j3, er, Option.bind_some, if_pos hlen, Option.bind_some, impl_trace, Option.bind_some, if_pos h5, e2]
  · rw [if_neg h5]
    exact ev_ret (fun k => by rw [impl_ReadTrace.j3, er, Option.bind_some, if_pos hlen, Option.bind_some, impl_trace, Option.bind_some, if_neg h5])
theorem impl_rt_l0 (s : ByteArray) (W : List ByteArray) (hW : ∀ w ∈ W, w.size ≤ 2000000) (hl : W.length ≤ 2000000) (d : Nat) : ∀ (i : Nat) (acc : List S45), W.length - i = d → i ≤ W.length → traceOk acc = true →
    Ev (fun k => impl_ReadTrace.l0 k s acc W (W.length : Int) (i : Int)) (rdT s acc ((W.drop i).map (fun w : ByteArray => w.data.toList))) := by
  induction d with
  | zero =>
    intro i acc hd hi ha
    rw [List.drop_eq_nil_of_le (by omega), List.map_nil, rdT]
    refine Ev.step (f := fun k => (impl_traceText.f k acc).bind fun t132 => (if t132.toList = s.toList then (some (acc, true)) else (some (([] : List S45), false)))) (fun k => by rw [impl_ReadTrace.l0, if_neg (by omega)]) ?_
    refine Ev.bind (impl_textT acc ha) (ev_all fun k => ?_)
    by_cases h : (textT acc).toList = s.toList
    · rw [if_pos h, if_pos h]
    · rw [if_neg h, if_neg h]
  | succ d ih =>
    intro i acc hd hi ha
    have hi2 : i < W.length := by omega
    have hr : rdOf ByteArray.empty W (i : Int) = W[i] := by unfold rdOf; rw [Int.toNat_natCast, List.getD_eq_getElem?_getD, List.getElem?_eq_getElem hi2]; rfl
    rw [List.drop_eq_getElem_cons hi2, List.map_cons]
    exact rt_one s W acc (traceOk_len ha) i hi2 hl W[i] hr (hW _ (List.getElem_mem hi2)) (fun h => ih (i + 1) _ (by omega) (by omega) h)
def RT (s : ByteArray) : List S45 × Bool := if s.toList = [] then ([], true) else rdT s [] (pcs 32 [] s.data.toList)
theorem split_is3 (s : ByteArray) : (Go.Lib.splitB (⟨#[32]⟩ : ByteArray) 0 (Go.Lib.countB s (⟨#[32]⟩ : ByteArray)) s).map (fun w : ByteArray => w.data.toList) = pcs 32 [] s.data.toList := by
  rw [Go.Lib.splitB_data]
  exact split_pcs 32 s.data.toList.length _ (Nat.le_refl _)
theorem impl_rt (s : ByteArray) (hs : s.size ≤ 1048576) : Ev (fun k => impl_ReadTrace.f k s) (RT s) := by
  unfold impl_ReadTrace.f RT
  simp only [Option.bind_some]
  by_cases h : s.toList = []
  · simp only [if_pos h]; exact Ev.now _
  · simp only [if_neg h]
    have hsp : strings_Split.f s (⟨#[32]⟩ : ByteArray) = some (Go.Lib.splitB (⟨#[32]⟩ : ByteArray) 0 (Go.Lib.countB s (⟨#[32]⟩ : ByteArray)) s) := by
      unfold strings_Split.f
      rw [if_pos ⟨by omega, by show 1 ≤ 1; omega⟩]
    rw [hsp]
    have hp := split_is3 s
    have hle := Go.Lib.splitB_length_le (⟨#[32]⟩ : ByteArray) 0 (Go.Lib.countB s (⟨#[32]⟩ : ByteArray)) s
    have hcl := Go.Lib.count_le s.data.toList [32]
    have hc2 : Go.Lib.countB s (⟨#[32]⟩ : ByteArray) ≤ s.data.toList.length + 1 := hcl
    rw [← ba_size] at hc2
    generalize Go.Lib.splitB (⟨#[32]⟩ : ByteArray) 0 (Go.Lib.countB s (⟨#[32]⟩ : ByteArray)) s = W at *
    have hW : ∀ w ∈ W, w.size ≤ 2000000 := by
      intro w hw
      have h1 : w.data.toList ∈ pcs 32 [] s.data.toList := by rw [← hp]; exact List.mem_map.2 ⟨w, hw, rfl⟩
      have h2 := pcs_len 32 _ _ _ h1
      rw [← ba_size, ← ba_size, List.length_nil] at h2
      omega
    have h0 := impl_rt_l0 s W hW (by omega) W.length 0 [] (by omega) (by omega) rfl
    rw [List.drop_zero, hp] at h0
    exact Ev.bind (Ev.now W) h0
theorem rdT_sound (s : ByteArray) : ∀ (ws : List (List UInt8)) (acc : List S45), traceOk acc = true → rdT s acc ws = ([], false) ∨ ∃ t, rdT s acc ws = (t, true) ∧ traceOk t = true ∧ (textT t).toList = s.toList
  | [], acc, h => by
    rw [rdT]
    by_cases g : (textT acc).toList = s.toList
    · rw [if_pos g]; exact .inr ⟨acc, rfl, h, g⟩
    · rw [if_neg g]; exact .inl rfl
  | w :: ws, acc, h => by
    rw [rdT]
    split
    · split
      · rename_i g; exact rdT_sound s ws _ g
      · exact .inl rfl
    · exact .inl rfl
theorem RT_sound (s : ByteArray) : RT s = ([], false) ∨ ∃ t, RT s = (t, true) ∧ traceOk t = true ∧ (textT t).toList = s.toList := by
  unfold RT
  by_cases h : s.toList = []
  · rw [if_pos h]; exact .inr ⟨[], rfl, rfl, by rw [h, ByteArray.toList_eq]; rfl⟩
  · rw [if_neg h]; exact rdT_sound s _ [] rfl
/-! a trace's words are read back -/
theorem itoa_no (n : Int) (c : UInt8) (h1 : c.toNat ≠ 45) (h2 : c.toNat < 48 ∨ 57 < c.toNat) : c ∉ Go.Lib.itoa n := by
  intro hc
  have hd : c.toNat = 45 ∨ (48 ≤ c.toNat ∧ c.toNat ≤ 57) := by
    unfold Go.Lib.itoa at hc
    split at hc
    · rcases List.mem_cons.1 hc with rfl | hc
      · exact .inl rfl
      · exact .inr (dd_dig _ c hc)
    · exact .inr (dd_dig _ c hc)
  omega
theorem no42 (n : Int) : (42 : UInt8) ∉ Go.Lib.itoa n := itoa_no n 42 (by decide) (by decide)
theorem no32 (n : Int) : (32 : UInt8) ∉ Go.Lib.itoa n := itoa_no n 32 (by decide) (by decide)
theorem no119 (n : Int) : (119 : UInt8) ∉ Go.Lib.itoa n := itoa_no n 119 (by decide) (by decide)
theorem out_itoa (n : Int) (h1 : -1000000000 ≤ n) (h2 : n ≤ 1000000000) : impl_ReadDecimal.out (mkB (Go.Lib.itoa n)) = (n, true) := impl_rd_yes _ n ⟨h1, h2, rfl⟩
theorem cut_yes (P r : List UInt8) (h : (42 : UInt8) ∉ P) : Go.Lib.cut (P ++ 42 :: r) [42] = (P, r, true) := by
  unfold Go.Lib.cut
  rw [idx_yes 42 P r h, if_pos (by omega), Int.toNat_natCast]
  simp
theorem cut_no (P : List UInt8) (h : (42 : UInt8) ∉ P) : Go.Lib.cut P [42] = (P, [], false) := by
  unfold Go.Lib.cut
  rw [idx_no 42 P h, if_neg (by omega)]
def preW (x : S45) : List UInt8 := Go.Lib.itoa x.f1 ++ (if x.f0 = 1 then [119] else [])
theorem pre42 (x : S45) : (42 : UInt8) ∉ preW x := by
  unfold preW
  intro h
  rcases List.mem_append.1 h with h | h
  · exact no42 _ h
  · split at h
    · exact absurd h (by decide)
    · exact absurd h (by simp)
theorem cutW (x : S45) (m : Nat) : Go.Lib.cut (wordL x m) [42] = (preW x, if 1 < m then Go.Lib.itoa (m : Int) else [], decide (1 < m)) := by
  unfold wordL
  by_cases h : 1 < m
  · rw [if_pos h, if_pos h, decide_eq_true h]; exact cut_yes (preW x) _ (pre42 x)
  · rw [if_neg h, if_neg h, decide_eq_false h, List.append_nil]; exact cut_no (preW x) (pre42 x)
theorem sufW (x : S45) : Go.Lib.hasSuffix (preW x) [119] = decide (x.f0 = 1) ∧ Go.Lib.trimSuffix (preW x) [119] = Go.Lib.itoa x.f1 := by
  by_cases h : x.f0 = 1
  · have e : preW x = Go.Lib.itoa x.f1 ++ [119] := by unfold preW; rw [if_pos h]
    have hs : Go.Lib.hasSuffix (preW x) [119] = true := by
      unfold Go.Lib.hasSuffix
      rw [List.isSuffixOf_iff_suffix, e]
      exact List.suffix_append _ _
    refine ⟨by rw [hs, decide_eq_true h], ?_⟩
    unfold Go.Lib.trimSuffix
    rw [if_pos hs, e]
    simp
  · have e : preW x = Go.Lib.itoa x.f1 := by unfold preW; rw [if_neg h, List.append_nil]
    have hs : Go.Lib.hasSuffix (preW x) [119] = false := by
      rw [Bool.eq_false_iff]
      intro hh
      unfold Go.Lib.hasSuffix at hh
      rw [List.isSuffixOf_iff_suffix, e] at hh
      exact no119 _ (hh.subset (List.mem_cons_self ..))
    refine ⟨by rw [hs, decide_eq_false h], ?_⟩
    unfold Go.Lib.trimSuffix
    rw [hs, if_neg (by decide), e]
theorem word_back (x : S45) (m : Nat) (hx : 0 ≤ x.f0 ∧ x.f0 ≤ 1 ∧ 0 ≤ x.f1 ∧ x.f1 ≤ 63) (h1 : 1 ≤ m) (h2 : m ≤ 60) : okW (wordL x m) = true ∧ cntW (wordL x m) = (m : Int) ∧ accW (wordL x m) = x := by
  obtain ⟨s1, s2⟩ := sufW x
  have o1 := out_itoa x.f1 (by omega) (by omega)
  have o2 := out_itoa (m : Int) (by omega) (by omega)
  have hacc : accW (wordL x m) = x := by
    unfold accW
    rw [cutW]
    show (⟨if Go.Lib.hasSuffix (preW x) [119] = true then 1 else 0, (impl_ReadDecimal.out (mkB (Go.Lib.trimSuffix (preW x) [119]))).1⟩ : S45) = x
    rw [s1, s2, o1]
    by_cases h : x.f0 = 1
    · rw [decide_eq_true h, if_pos rfl]
      show (⟨1, x.f1⟩ : S45) = x
      rw [← h]
    · rw [decide_eq_false h, if_neg (by decide)]
      show (⟨0, x.f1⟩ : S45) = x
      rw [← show x.f0 = 0 by omega]
  refine ⟨?_, ?_, hacc⟩
  · unfold okW
    rw [cutW]
    show (if decide (1 < m) = true then (if (impl_ReadDecimal.out (mkB (Go.Lib.trimSuffix (preW x) [119]))).2 = true then (impl_ReadDecimal.out (mkB (if 1 < m then Go.Lib.itoa (m : Int) else []))).2 else false) else (impl_ReadDecimal.out (mkB (Go.Lib.trimSuffix (preW x) [119]))).2) = true
    rw [s2, o1]
    by_cases h : 1 < m
    · rw [if_pos h, o2, if_pos (decide_eq_true h), if_pos rfl]
    · rw [if_neg (by rw [decide_eq_false h]; decide)]
  · unfold cntW
    rw [cutW]
    show (if decide (1 < m) = true then (impl_ReadDecimal.out (mkB (if 1 < m then Go.Lib.itoa (m : Int) else []))).1 else 1) = _
    by_cases h : 1 < m
    · rw [if_pos h, o2, if_pos (decide_eq_true h)]
    · rw [if_neg (by rw [decide_eq_false h]; decide)]; omega
theorem same_rep (x : S45) : ∀ l : List S45, List.replicate (same x l) x ++ l.drop (same x l) = l
  | [] => rfl
  | y :: l => by
    rw [same]
    by_cases c : ((y.f0 == x.f0) && (y.f1 == x.f1)) = true
    · rw [if_pos c, List.replicate_succ, List.drop_succ_cons, List.cons_append, same_rep x l]
      rw [Bool.and_eq_true, beq_iff_eq, beq_iff_eq] at c
      have : y = x := by
        cases x; cases y
        simp only at c
        rw [c.1, c.2]
      rw [this]
    · rw [if_neg c]; rfl
theorem traceOk_app {a b : List S45} (h : traceOk (a ++ b) = true) : traceOk a = true := by
  unfold traceOk at h ⊢
  rw [Bool.and_eq_true, decide_eq_true_eq, List.all_append, Bool.and_eq_true, List.length_append] at h
  rw [Bool.and_eq_true, decide_eq_true_eq]
  exact ⟨by omega, h.2.1⟩
theorem rdT_words (s : ByteArray) (t : List S45) (ht : traceOk t = true) (hs : (textT t).toList = s.toList) : ∀ (n : Nat) (acc l : List S45), acc ++ l = t → l.length ≤ n → rdT s acc (wds n l) = (t, true)
  | 0, acc, l, e, hl => by
    have : l = [] := List.eq_nil_of_length_eq_zero (by omega)
    subst this
    rw [List.append_nil] at e
    rw [wds, rdT, e, if_pos hs]
  | n + 1, acc, [], e, hl => by
    rw [List.append_nil] at e
    rw [wds, rdT, e, if_pos hs]
  | n + 1, acc, x :: l, e, hl => by
    rw [wds, rdT]
    rw [List.length_cons] at hl
    have hlt := traceOk_len ht
    have hsl := same_le x l
    have hll : acc.length + (l.length + 1) ≤ 60 := by rw [← e, List.length_append, List.length_cons] at hlt; exact hlt
    obtain ⟨w1, w2, w3⟩ := word_back x (same x l + 1) (traceOk_mem ht (by rw [← e]; exact List.mem_append_right _ (List.mem_cons_self ..))) (by omega) (by omega)
    have er : List.replicate (same x l + 1) x ++ l.drop (same x l) = x :: l := by rw [List.replicate_succ, List.cons_append, same_rep]
    have e2 : (acc ++ List.replicate (same x l + 1) x) ++ l.drop (same x l) = t := by rw [List.append_assoc, er, e]
    rw [w1, w2, w3, Int.toNat_natCast, if_pos ⟨rfl, by omega, by omega⟩, if_pos (traceOk_app (b := l.drop (same x l)) (by rw [e2]; exact ht))]
    exact rdT_words s t ht hs n _ _ e2 (by rw [List.length_drop]; omega)
theorem pcs_tail3 (b : UInt8) : ∀ (r : List (List UInt8)) (cur : List UInt8), (∀ w ∈ r, b ∉ w) → pcs b cur (Go.Lib.joinTail [b] r) = cur :: r
  | [], cur, _ => rfl
  | w :: r, cur, h => by
    have e : Go.Lib.joinTail [b] (w :: r) = b :: (w ++ Go.Lib.joinTail [b] r) := by unfold Go.Lib.joinTail; simp
    rw [e, pcs, if_pos rfl, pcs_app b w [] _ (h w (List.mem_cons_self ..)), List.nil_append, pcs_tail3 b r w (fun x hx => h x (List.mem_cons_of_mem _ hx))]
theorem word32 (x : S45) (m : Nat) : (32 : UInt8) ∉ wordL x m := by
  unfold wordL
  intro h
  rcases List.mem_append.1 h with h | h
  · rcases List.mem_append.1 h with h | h
    · exact no32 _ h
    · split at h
      · exact absurd h (by decide)
      · exact absurd h (by simp)
  · split at h
    · rcases List.mem_cons.1 h with h | h
      · exact absurd h (by decide)
      · exact no32 _ h
    · exact absurd h (by simp)
theorem wds32 : ∀ (n : Nat) (l : List S45), ∀ w ∈ wds n l, (32 : UInt8) ∉ w
  | 0, _, w, hw => by rw [wds] at hw; cases hw
  | n + 1, [], w, hw => by rw [wds] at hw; cases hw
  | n + 1, x :: l, w, hw => by
    rw [wds] at hw
    rcases List.mem_cons.1 hw with rfl | hw
    · exact word32 _ _
    · exact wds32 n _ w hw
theorem word_ne (x : S45) (m : Nat) : wordL x m ≠ [] := by
  unfold wordL
  intro h
  rw [List.append_eq_nil_iff, List.append_eq_nil_iff] at h
  exact itoa_ne _ h.1.1
theorem RT_text (s : ByteArray) (t : List S45) (ht : traceOk t = true) (hs : (textT t).toList = s.toList) : RT s = (t, true) := by
  cases t with
  | nil =>
    unfold RT
    have e0 : (textT ([] : List S45)).toList = [] := by rw [ByteArray.toList_eq]; rfl
    rw [e0] at hs
    rw [if_pos hs.symm]
  | cons x l =>
    have hd : s.data.toList = Go.Lib.join (wds (l.length + 1) (x :: l)) [32] := by
      rw [ByteArray.toList_eq, ByteArray.toList_eq] at hs
      rw [← hs]; rfl
    have hp : pcs 32 [] s.data.toList = wds (l.length + 1) (x :: l) := by
      rw [hd]
      have h32 := wds32 (l.length + 1) (x :: l)
      rw [wds] at h32 ⊢
      rw [Go.Lib.join_cons, pcs_app 32 _ [] _ (h32 _ (List.mem_cons_self ..)), List.nil_append, pcs_tail3 32 _ _ (fun w hw => h32 w (List.mem_cons_of_mem _ hw))]
    have hne : s.toList ≠ [] := by
      rw [ByteArray.toList_eq, hd, wds]
      exact join_ne _ _ _ (word_ne _ _)
    unfold RT
    rw [if_neg hne, hp]
    exact rdT_words s (x :: l) ht hs (l.length + 1) [] (x :: l) rfl (by simp)

def mg (a b : List S45) : List Int → List S45 → Nat → Nat → List S45 × Bool
  | [], acc, _, _ => (acc, true)
  | t :: r, acc, i, j => if t = 0 ∧ i < a.length then mg a b r (acc ++ [a.getD i z45]) (i + 1) j else if t = 1 ∧ j < b.length then mg a b r (acc ++ [b.getD j z45]) i (j + 1) else ([], false)
theorem impl_mg (a b : List S45) (l : List Int) (ha : a.length ≤ 60) (hb : b.length ≤ 60) (hl : l.length ≤ 60) (d : Nat) : ∀ (n : Nat) (acc : List S45) (i j : Nat), l.length - n = d → n ≤ l.length → acc.length ≤ n → i ≤ a.length → j ≤ b.length →
    Ev (fun k => impl_MergeTraces.l0 k a b acc (i : Int) (j : Int) l (l.length : Int) (n : Int)) (mg a b (l.drop n) acc i j) := by
  induction d with
  | zero =>
    intro n acc i j hd hn hacc hi hj
    rw [List.drop_eq_nil_of_le (by omega), mg]
    exact ev_ret (fun k => by rw [impl_MergeTraces.l0, if_neg (by omega)])
  | succ d ih =>
    intro n acc i j hd hn hacc hi hj
    rw [gdrop 0 l n (by omega), mg]
    have hr : rd l (n : Int) = l.getD n 0 := rd_nat l n
    have e0 : ∀ k x, impl_MergeTraces.l0 (k + 1) a b acc (i : Int) (j : Int) l (l.length : Int) (n : Int) = x ↔ impl_MergeTraces.j2 k a b acc (i : Int) (j : Int) (l.getD n 0) l (l.length : Int) (n : Int) (decide (l.getD n 0 = 0 ∧ i < a.length)) = x := by
      intro k x
      rw [impl_MergeTraces.l0, if_pos (by omega), if_pos (by omega), if_pos (by omega), hr]
      by_cases h0 : l.getD n 0 = 0
      · by_cases h1 : i < a.length
        · rw [if_pos h0, decide_eq_true (p := (i : Int) < (a.length : Int)) (by omega), decide_eq_true ⟨h0, h1⟩]
        · rw [if_pos h0, decide_eq_false (p := (i : Int) < (a.length : Int)) (by omega), decide_eq_false (fun q => h1 q.2)]
      · rw [if_neg h0, decide_eq_false (fun q => h0 q.1)]
    refine Ev.step (fun k => (e0 k _).mpr rfl) ?_
    by_cases h : l.getD n 0 = 0 ∧ i < a.length
    · rw [if_pos h, decide_eq_true h]
      refine Ev.step (fun k => ?_) (ih (n + 1) (acc ++ [a.getD i z45]) (i + 1) j (by omega) (by omega) (by simp; omega) (by omega) hj)
      rw [impl_MergeTraces.j2, if_pos rfl, if_pos (by omega), if_pos (by omega), if_pos (by omega), rdA, wid (x := (n : Int) + 1) (by omega) (by omega), wid (x := (i : Int) + 1) (by omega) (by omega), show ((n + 1 : Nat) : Int) = (n : Int) + 1 by omega, show ((i + 1 : Nat) : Int) = (i : Int) + 1 by omega]
    · rw [if_neg h, decide_eq_false h]
      by_cases g : l.getD n 0 = 1 ∧ j < b.length
      · rw [if_pos g]
        refine Ev.step (fun k => ?_) (ih (n + 1) (acc ++ [b.getD j z45]) i (j + 1) (by omega) (by omega) (by simp; omega) hi (by omega))
        rw [impl_MergeTraces.j2, if_neg (by decide), if_pos g.1, if_pos (by omega), if_pos (by omega), if_pos (by omega), rdA, wid (x := (n : Int) + 1) (by omega) (by omega), wid (x := (j : Int) + 1) (by omega) (by omega), show ((n + 1 : Nat) : Int) = (n : Int) + 1 by omega, show ((j + 1 : Nat) : Int) = (j : Int) + 1 by omega]
      · rw [if_neg g]
        refine ev_ret (fun k => ?_)
        rw [impl_MergeTraces.j2, if_neg (by decide)]
        by_cases g1 : l.getD n 0 = 1
        · rw [if_pos g1, if_neg (fun q => g ⟨g1, by omega⟩)]
        · rw [if_neg g1]

theorem u8_bd {x : Int} (h : (Lit.int .u8 x).wf = true) : 0 ≤ x ∧ x ≤ 255 := by
  simp [Lit.wf, IntKind.min, IntKind.max, IntKind.signed, IntKind.bits] at h
  exact h

/-! the source that draws -/
theorem and255 (a : Int) : 0 ≤ Go.bits .and .u64 a 255 ∧ Go.bits .and .u64 a 255 ≤ 255 := by
  have h : ((BitVec.ofInt 64 a) &&& (BitVec.ofInt 64 255)).toNat ≤ 255 := by
    rw [BitVec.toNat_and]
    exact Nat.and_le_right
  have e : Go.bits .and .u64 a 255 = IntKind.u64.wrap ((((BitVec.ofInt 64 a) &&& (BitVec.ofInt 64 255)).toNat : Nat) : Int) := rfl
  rw [e]
  generalize ((BitVec.ofInt 64 a) &&& (BitVec.ofInt 64 255)).toNat = n at h
  simp only [IntKind.wrap, IntKind.bits, IntKind.signed]
  simp
  omega
theorem next_ok (l : List Int) (u : ∀ x ∈ l, (Lit.int .u8 x).wf = true) (at_ sd : Int) (h0 : 0 ≤ at_) (h1 : at_ ≤ 4611686018427387904) :
    ∃ t sd', spec_l00Src_next.f l at_ sd = some (t, at_ + 1, sd') ∧ 0 ≤ t ∧ t ≤ 255 := by
  have hw : wrap64 (at_ + 1) = at_ + 1 := wid (by omega) (by omega)
  unfold spec_l00Src_next.f
  rw [hw]
  by_cases h : at_ < (l.length : Int)
  · obtain ⟨i, rfl⟩ := Int.eq_ofNat_of_zero_le h0
    have hb := u8_bd (u _ (rd_mem l i (by omega)))
    rw [if_pos h, if_pos h0, if_pos (by omega), wid (x := rd l (i : Int)) (by omega) (by omega)]
    exact ⟨_, _, rfl, hb⟩
  · rw [if_neg h, if_neg (by omega)]
    refine ⟨_, _, rfl, ?_⟩
    have := and255 ((IntKind.u64.wrap (IntKind.u64.wrap (IntKind.u64.wrap (sd * 6364136223846793005)) + 1442695040888963407)) / 1099511627776)
    rw [wid (by omega) (by omega)]
    exact this
theorem pick_ok (l : List Int) (u : ∀ x ∈ l, (Lit.int .u8 x).wf = true) (at_ sd n : Int) (h0 : 0 ≤ at_) (h1 : at_ ≤ 2305843009213693952) (hn : 1 ≤ n) (hn2 : n ≤ 65536) :
    ∃ t at' sd', spec_l00Src_pick.f l at_ sd n = some (t, at', sd') ∧ 0 ≤ t ∧ t < n ∧ at_ ≤ at' ∧ at' ≤ at_ + 2 := by
  unfold spec_l00Src_pick.f
  by_cases h : n ≤ 1
  · rw [if_pos h]
    exact ⟨0, at_, sd, rfl, by omega, by omega, by omega, by omega⟩
  · rw [if_neg h]
    obtain ⟨t, sd1, e1, a1, b1⟩ := next_ok l u at_ sd h0 (by omega)
    rw [e1, Option.bind_some]
    by_cases g : n > 200
    · rw [if_pos g]
      obtain ⟨t2, sd2, e2, a2, b2⟩ := next_ok l u (at_ + 1) sd1 (by omega) (by omega)
      show ∃ t at' sd', (spec_l00Src_next.f l (at_ + 1) sd1).bind _ = some (t, at', sd') ∧ _
      rw [e2, Option.bind_some, if_neg (by omega)]
      have w1 : wrap64 (t * 256) = t * 256 := wid (by omega) (by omega)
      have w2 : wrap64 (t * 256 + t2) = t * 256 + t2 := wid (by omega) (by omega)
      refine ⟨_, _, _, rfl, ?_, ?_, (show at_ ≤ at_ + 1 + 1 by omega), (show at_ + 1 + 1 ≤ at_ + 2 by omega)⟩
      · show 0 ≤ Int.tmod (wrap64 (wrap64 (t * 256) + t2)) n
        rw [w1, w2, Int.tmod_eq_emod_of_nonneg (by omega)]; exact Int.emod_nonneg _ (by omega)
      · show Int.tmod (wrap64 (wrap64 (t * 256) + t2)) n < n
        rw [w1, w2, Int.tmod_eq_emod_of_nonneg (by omega)]; exact Int.emod_lt_of_pos _ (by omega)
    · rw [if_neg g, if_neg (by omega)]
      refine ⟨_, _, _, rfl, ?_, ?_, (show at_ ≤ at_ + 1 by omega), (show at_ + 1 ≤ at_ + 2 by omega)⟩
      · show 0 ≤ Int.tmod t n
        rw [Int.tmod_eq_emod_of_nonneg a1]; exact Int.emod_nonneg _ (by omega)
      · show Int.tmod t n < n
        rw [Int.tmod_eq_emod_of_nonneg a1]; exact Int.emod_lt_of_pos _ (by omega)

theorem among_ok (l : List Int) (u : ∀ x ∈ l, (Lit.int .u8 x).wf = true) (at_ sd : Int) (xs : List Int) (h0 : 0 ≤ at_) (h1 : at_ ≤ 2305843009213693952) (hn : 1 ≤ xs.length) (hn2 : xs.length ≤ 65536) :
    ∃ t at' sd', spec_l00Src_among.f l at_ sd xs = some (t, at', sd') ∧ t ∈ xs ∧ at_ ≤ at' ∧ at' ≤ at_ + 2 := by
  unfold spec_l00Src_among.f
  obtain ⟨t, at1, sd1, e, a, b, c, d⟩ := pick_ok l u at_ sd (xs.length : Int) h0 h1 (by omega) (by omega)
  rw [e, Option.bind_some]
  obtain ⟨i, rfl⟩ := Int.eq_ofNat_of_zero_le a
  rw [if_pos a, if_pos b]
  exact ⟨_, _, _, rfl, rd_mem xs i (by omega), c, d⟩

theorem few_l1 (l : List Int) (u : ∀ x ∈ l, (Lit.int .u8 x).wf = true) (base : List Int) (hb : 1 ≤ base.length) (hb2 : base.length ≤ 65536) (n : Nat) : ∀ (acc : List Int) (at_ sd : Int), 0 ≤ at_ → at_ + 2 * n ≤ 2000000 → acc.length + n ≤ 100000 →
    ∃ ys at' sd', Ev (fun k => spec_l02DrawFew.l1 k (n : Int) base acc l at_ sd) (acc ++ ys, at', sd') ∧ ys.length = n ∧ (∀ y ∈ ys, y ∈ base) ∧ at_ ≤ at' ∧ at' ≤ at_ + 2 * n := by
  induction n with
  | zero =>
    intro acc at_ sd h0 h1 ha
    exact ⟨[], at_, sd, ev_ret (fun k => by rw [spec_l02DrawFew.l1, if_neg (by omega), List.append_nil]), rfl, fun y hy => absurd hy (by simp), by omega, by omega⟩
  | succ n ih =>
    intro acc at_ sd h0 h1 ha
    obtain ⟨t, at1, sd1, e, hm, c, d⟩ := among_ok l u at_ sd base h0 (by omega) hb hb2
    obtain ⟨ys, at2, sd2, e2, hl, hy, c2, d2⟩ := ih (acc ++ [t]) at1 sd1 (by omega) (by omega) (by simp; omega)
    refine ⟨t :: ys, at2, sd2, ?_, by simp [hl], fun y h => ?_, by omega, by omega⟩
    · rw [List.append_cons]
      refine Ev.step (fun k => ?_) e2
      rw [spec_l02DrawFew.l1, if_pos (by omega), e, Option.bind_some, if_pos (by omega), wid (by omega) (by omega), show ((n + 1 : Nat) : Int) - 1 = (n : Int) by omega]
    · rcases List.mem_cons.1 h with rfl | h
      · exact hm
      · exact hy y h
theorem few_l0 (l : List Int) (u : ∀ x ∈ l, (Lit.int .u8 x).wf = true) (m : Nat) (kinds : Int) (hk : 1 ≤ kinds) (hk2 : kinds ≤ 1000) (d : Nat) : ∀ (i : Int) (acc : List Int) (at_ sd : Int), 0 ≤ i → kinds - i = d → (acc.length : Int) = i → (∀ x ∈ acc, 0 ≤ x ∧ x ≤ 63) → 0 ≤ at_ → at_ + 2 * d + 2 * m ≤ 2000000 → m ≤ 10000 →
    ∃ ys at' sd', Ev (fun k => spec_l02DrawFew.l0 k (m : Int) kinds acc i l at_ sd) (ys, at', sd') ∧ ys.length = m ∧ (∀ y ∈ ys, 0 ≤ y ∧ y ≤ 63) ∧ at_ ≤ at' ∧ at' ≤ at_ + 2 * d + 2 * m := by
  induction d with
  | zero =>
    intro i acc at_ sd hi hd hl hx h0 h1 hm
    obtain ⟨ys, at1, sd1, e, h2, h3, h4, h5⟩ := few_l1 l u acc (by omega) (by omega) m [] at_ sd h0 (by omega) (by simp; omega)
    refine ⟨ys, at1, sd1, ?_, h2, fun y hy => hx y (h3 y hy), h4, by omega⟩
    rw [List.nil_append] at e
    exact Ev.step (fun k => by rw [spec_l02DrawFew.l0, if_neg (by omega)]) e
  | succ d ih =>
    intro i acc at_ sd hi hd hl hx h0 h1 hm
    obtain ⟨t, at1, sd1, e, a, b, c, dd⟩ := pick_ok l u at_ sd 64 h0 (by omega) (by omega) (by omega)
    obtain ⟨ys, at2, sd2, e2, h2, h3, h4, h5⟩ := ih (i + 1) (acc ++ [t]) at1 sd1 (by omega) (by omega) (by simp; omega) (fun x h => by
      rcases List.mem_append.1 h with h | h
      · exact hx x h
      · rw [List.mem_singleton.1 h]; omega) (by omega) (by omega) hm
    refine ⟨ys, at2, sd2, ?_, h2, h3, by omega, by omega⟩
    refine Ev.step (fun k => ?_) e2
    rw [spec_l02DrawFew.l0, if_pos (by omega), e, Option.bind_some, if_pos (by omega), wid (by omega) (by omega)]

theorem one_ok (l : List Int) (u : ∀ x ∈ l, (Lit.int .u8 x).wf = true) (at_ sd n : Int) (h0 : 0 ≤ at_) (h1 : at_ ≤ 2305843009213693952) (hn : 1 ≤ n) (hn2 : n ≤ 65536) :
    ∃ b at' sd', spec_l00Src_one.f l at_ sd n = some (b, at', sd') ∧ at_ ≤ at' ∧ at' ≤ at_ + 2 := by
  obtain ⟨t, a1, s1, e, t1, t2, b1, c1⟩ := pick_ok l u at_ sd n h0 h1 hn hn2
  exact ⟨t == 0, a1, s1, by unfold spec_l00Src_one.f; rw [e]; rfl, b1, c1⟩
theorem draw_uses (l : List Int) (u : ∀ x ∈ l, (Lit.int .u8 x).wf = true) : ∃ ys at' sd', Ev (fun k => spec_l02DrawUses.f k l 0 0) (ys, at', sd') ∧ ys.length ≤ 60 ∧ (∀ y ∈ ys, 0 ≤ y ∧ y ≤ 63) ∧ 0 ≤ at' ∧ at' ≤ 1000 := by
  unfold spec_l02DrawUses.f
  obtain ⟨t, at1, sd1, e1, a1, b1, c1, d1⟩ := pick_ok l u 0 0 16 (by omega) (by omega) (by omega) (by omega)
  obtain ⟨bb, at2, sd2, e2, c2, d2⟩ := one_ok l u at1 sd1 14 (by omega) (by omega) (by omega) (by omega)
  obtain ⟨t3, at3, sd3, e3, a3, b3, c3, d3⟩ := pick_ok l u at2 sd2 6 (by omega) (by omega) (by omega) (by omega)
  simp only [e1, e2, e3, Option.bind_some]
  rw [wid (by omega) (by omega)]
  obtain ⟨n, rfl⟩ := Int.eq_ofNat_of_zero_le a1
  have go : ∀ m : Nat, m ≤ 60 → ∃ ys at' sd', Ev (fun k => (spec_l02DrawFew.f k l at3 sd3 (m : Int) (1 + t3)).bind fun bt => some (bt.1, bt.2.1, bt.2.2)) (ys, at', sd') ∧ ys.length ≤ 60 ∧ (∀ y ∈ ys, 0 ≤ y ∧ y ≤ 63) ∧ 0 ≤ at' ∧ at' ≤ 1000 := by
    intro m hm
    obtain ⟨ys, at4, sd4, e4, h2, h3, h4, h5⟩ := few_l0 l u m (1 + t3) (by omega) (by omega) (1 + t3).toNat 0 [] at3 sd3 (by omega) (by omega) rfl (fun x h => absurd h (by simp)) (by omega) (by omega) (by omega)
    refine ⟨ys, at4, sd4, ?_, by omega, h3, by omega, by omega⟩
    unfold spec_l02DrawFew.f
    exact Ev.bind (f := fun _ t => some (t.1, t.2.1, t.2.2)) e4 (Ev.now _)
  by_cases hb : bb = true
  · simp only [if_pos hb]
    exact go 60 (by omega)
  · simp only [if_neg hb]
    exact go n (by omega)
def VA (xs : List S45) : Prop := ∀ x ∈ xs, 0 ≤ x.f0 ∧ x.f0 ≤ 1 ∧ 0 ≤ x.f1 ∧ x.f1 ≤ 63
theorem VA_app {a b : List S45} (h : VA a) (k : VA b) : VA (a ++ b) := fun x hx => by
  rcases List.mem_append.1 hx with hx | hx
  · exact h x hx
  · exact k x hx
theorem VA_one {x : S45} (h : 0 ≤ x.f0 ∧ x.f0 ≤ 1 ∧ 0 ≤ x.f1 ∧ x.f1 ≤ 63) : VA [x] := fun y hy => by rw [List.mem_singleton.1 hy]; exact h
theorem traceOk_of {t : List S45} (h : t.length ≤ 60) (hv : VA t) : traceOk t = true := by
  unfold traceOk
  rw [decide_eq_true h, Bool.true_and, List.all_eq_true]
  intro x hx
  unfold accOk
  exact decide_eq_true (hv x hx)
theorem dt_l0 (l : List Int) (u : ∀ x ∈ l, (Lit.int .u8 x).wf = true) (ys : List Int) (hy : ys.length ≤ 60) (hr : ∀ y ∈ ys, 0 ≤ y ∧ y ≤ 63) (d : Nat) : ∀ (i : Nat) (out : List S45) (at_ sd : Int), ys.length - i = d → i ≤ ys.length → out.length + ys.length ≤ 60 + i → VA out → 0 ≤ at_ → at_ + 4 * (d : Int) ≤ 100000 →
    ∃ t at' sd', Ev (fun k => spec_l02DrawTrace.l0 k ys out (i : Int) l at_ sd) (t, at', sd') ∧ traceOk t = true := by
  induction d with
  | zero =>
    intro i out at_ sd hd hi ho hv h0 h1
    exact ⟨out, at_, sd, ev_ret (fun k => by rw [spec_l02DrawTrace.l0, if_neg (by omega)]), traceOk_of (by omega) hv⟩
  | succ d ih =>
    intro i out at_ sd hd hi ho hv h0 h1
    have hil : i < ys.length := by omega
    obtain ⟨t, at1, sd1, e1, a1, b1, c1, d1⟩ := pick_ok l u at_ sd 2 h0 (by omega) (by omega) (by omega)
    have hri := hr _ (rd_mem ys i hil)
    have hw : wrap64 ((i : Int) + 1) = ((i + 1 : Nat) : Int) := by rw [wid (by omega) (by omega)]; omega
    have hv2 : VA (out ++ [(⟨t, rd ys (i : Int)⟩ : S45)]) := VA_app hv (VA_one ⟨a1, by show t ≤ 1; omega, hri.1, hri.2⟩)
    have hl2 : (out ++ [(⟨t, rd ys (i : Int)⟩ : S45)]).length = out.length + 1 := by simp
    have w60 : wrap64 (60 - (ys.length : Int)) = 60 - (ys.length : Int) := wid (by omega) (by omega)
    have pre : ∀ k, spec_l02DrawTrace.l0 (k + 1) ys out (i : Int) l at_ sd = (some (out ++ [(⟨t, rd ys (i : Int)⟩ : S45)])).bind fun y168 => (if (y168.length : Int) < (60 - (ys.length : Int)) then ((spec_l00Src_one.f l at1 sd1 4).bind fun bt171 => (if bt171.1 = true then (if 0 ≤ (wrap64 ((y168.length : Int) - 1)) then (if (wrap64 ((y168.length : Int) - 1)) < (y168.length : Int) then (if y168.length < 8796093022208 then (spec_l02DrawTrace.l0 k ys (y168 ++ [(⟨(rd_T45 y168 (wrap64 ((y168.length : Int) - 1))).f0, (rd_T45 y168 (wrap64 ((y168.length : Int) - 1))).f1⟩ : S45)]) ((i + 1 : Nat) : Int) l bt171.2.1 bt171.2.2) else (none)) else (none)) else (none)) else (spec_l02DrawTrace.l0 k ys y168 ((i + 1 : Nat) : Int) l bt171.2.1 bt171.2.2))) else (spec_l02DrawTrace.l0 k ys y168 ((i + 1 : Nat) : Int) l at1 sd1)) := by
      intro k
      rw [spec_l02DrawTrace.l0, if_pos (by omega), e1, Option.bind_some, if_pos (by omega), if_pos (by omega), w60, hw]
    generalize out ++ [(⟨t, rd ys (i : Int)⟩ : S45)] = Y at pre hv2 hl2
    by_cases q : (Y.length : Int) < 60 - (ys.length : Int)
    · obtain ⟨bb, at2, sd2, e2, c2, d2⟩ := one_ok l u at1 sd1 4 (by omega) (by omega) (by omega) (by omega)
      by_cases hb : bb = true
      · have wl : wrap64 ((Y.length : Int) - 1) = (out.length : Int) := by rw [wid (by omega) (by omega)]; omega
        have hm : Y.getD out.length z45 ∈ Y := gmem z45 Y out.length (by omega)
        obtain ⟨r, a', s', er, hok⟩ := ih (i + 1) (Y ++ [Y.getD out.length z45]) at2 sd2 (by omega) (by omega) (by simp; omega) (VA_app hv2 (VA_one (hv2 _ hm))) (by omega) (by omega)
        refine ⟨r, a', s', Ev.step (fun k => ?_) er, hok⟩
        rw [pre, Option.bind_some, if_pos q, e2, Option.bind_some, if_pos hb, wl, if_pos (by omega), if_pos (by omega), if_pos (by omega), rdA]
      · obtain ⟨r, a', s', er, hok⟩ := ih (i + 1) Y at2 sd2 (by omega) (by omega) (by omega) hv2 (by omega) (by omega)
        refine ⟨r, a', s', Ev.step (fun k => ?_) er, hok⟩
        rw [pre, Option.bind_some, if_pos q, e2, Option.bind_some, if_neg hb]
    · obtain ⟨r, a', s', er, hok⟩ := ih (i + 1) Y at1 sd1 (by omega) (by omega) (by omega) hv2 (by omega) (by omega)
      refine ⟨r, a', s', Ev.step (fun k => ?_) er, hok⟩
      rw [pre, Option.bind_some, if_neg q]
theorem r8trace (l : List Int) (u : ∀ x ∈ l, (Lit.int .u8 x).wf = true) : ∃ t, Ev (fun k => spec_R8Trace.f k l) t ∧ traceOk t = true := by
  obtain ⟨ys, at1, sd1, e1, h1, h2, h3, h4⟩ := draw_uses l u
  obtain ⟨t, at2, sd2, e2, hok⟩ := dt_l0 l u ys h1 h2 ys.length 0 [] at1 sd1 (by omega) (by omega) (by simp; omega) (fun x hx => absurd hx (by simp)) h3 (by omega)
  refine ⟨t, ?_, hok⟩
  unfold spec_R8Trace.f spec_l00From.f
  simp only [Option.bind_some]
  refine Ev.bind (f := fun _ bt => some bt.1) (a := (t, at2, sd2)) ?_ (Ev.now _)
  unfold spec_l02DrawTrace.f
  exact Ev.bind e1 e2
/-! turns -/
def cz : List Int → Nat
  | [] => 0
  | t :: r => (if t = 0 then 1 else 0) + cz r
def co : List Int → Nat
  | [] => 0
  | t :: r => (if t = 0 then 0 else 1) + co r
theorem cz_app : ∀ a b : List Int, cz (a ++ b) = cz a + cz b
  | [], b => by simp [cz]
  | t :: a, b => by rw [List.cons_append, cz, cz, cz_app a b]; omega
theorem co_app : ∀ a b : List Int, co (a ++ b) = co a + co b
  | [], b => by simp [co]
  | t :: a, b => by rw [List.cons_append, co, co, co_app a b]; omega
theorem czo_len : ∀ a : List Int, cz a + co a = a.length
  | [] => rfl
  | t :: a => by
    have := czo_len a
    rw [cz, co, List.length_cons]
    split <;> omega
def mgl (a b : List S45) : List Int → Nat → Nat → List S45
  | [], _, _ => []
  | t :: r, i, j => if t = 0 then a.getD i z45 :: mgl a b r (i + 1) j else b.getD j z45 :: mgl a b r i (j + 1)
theorem mgl_len (a b : List S45) : ∀ (r : List Int) (i j : Nat), (mgl a b r i j).length = r.length
  | [], _, _ => rfl
  | t :: r, i, j => by
    rw [mgl]
    split
    · rw [List.length_cons, List.length_cons, mgl_len a b r]
    · rw [List.length_cons, List.length_cons, mgl_len a b r]
theorem mg_mgl (a b : List S45) : ∀ (r : List Int) (acc : List S45) (i j : Nat), (∀ t ∈ r, t = 0 ∨ t = 1) → i + cz r = a.length → j + co r = b.length → mg a b r acc i j = (acc ++ mgl a b r i j, true)
  | [], acc, i, j, _, _, _ => by rw [mg, mgl, List.append_nil]
  | t :: r, acc, i, j, h, hi, hj => by
    have h1 := h t (List.mem_cons_self ..)
    have h2 : ∀ x ∈ r, x = 0 ∨ x = 1 := fun x hx => h x (List.mem_cons_of_mem _ hx)
    rw [cz] at hi
    rw [co] at hj
    rw [mg, mgl]
    by_cases q : t = 0
    · rw [if_pos q] at hi hj
      rw [if_pos ⟨q, by omega⟩, if_pos q, mg_mgl a b r _ _ _ h2 (by omega) (by omega), List.append_assoc]; rfl
    · rw [if_neg q] at hi hj
      have q1 : t = 1 := by omega
      rw [if_neg (fun g => q g.1), if_pos ⟨q1, by omega⟩, if_neg q, mg_mgl a b r _ _ _ h2 (by omega) (by omega), List.append_assoc]; rfl
theorem traces_refl_l (l : List S45) (hl : l.length ≤ 1000) (d : Nat) : ∀ i : Nat, l.length - i = d → Ev (fun k => laws_r8Traces.l0 k l l (i : Int)) true := by
  induction d with
  | zero => intro i hd; exact ev_ret (fun k => by rw [laws_r8Traces.l0, if_neg (by omega)])
  | succ d ih =>
    intro i hd
    have e : wrap64 ((i : Int) + 1) = ((i + 1 : Nat) : Int) := by rw [wid (by omega) (by omega)]; omega
    exact Ev.step (fun k => by rw [laws_r8Traces.l0, if_pos (by omega), if_pos (by omega), if_pos (by omega), if_neg (by simp), e]) (ih (i + 1) (by omega))
theorem traces_refl (l : List S45) (hl : l.length ≤ 1000) : Ev (fun k => laws_r8Traces.f k l l) true := by
  unfold laws_r8Traces.f
  simp only [if_pos rfl]
  exact traces_refl_l l hl l.length 0 (by omega)
theorem tsnoc (a : List S45) (i : Nat) (h : i < a.length) : a.take i ++ [a.getD i z45] = a.take (i + 1) := by
  rw [List.take_succ_eq_append_getElem h, List.getD_eq_getElem?_getD, List.getElem?_eq_getElem h]; rfl
theorem split_l1 (a b : List S45) (ha : a.length ≤ 60) (hb : b.length ≤ 60) (T : List Int) (L : List S45) (hT : T.length ≤ 200) (hL : L.length = T.length) (d : Nat) : ∀ (n i j : Nat), T.length - n = d → n ≤ T.length → L.drop n = mgl a b (T.drop n) i j → i + cz (T.drop n) = a.length → j + co (T.drop n) = b.length →
    Ev (fun k => laws_FnMergedTraces.l1 k a b T L (a.take i) (b.take j) (n : Int)) true := by
  induction d with
  | zero =>
    intro n i j hd hn h1 h2 h3
    rw [List.drop_eq_nil_of_le (by omega)] at h2 h3
    have e2 : i = a.length := h2
    have e3 : j = b.length := h3
    rw [e2, e3, List.take_length, List.take_length]
    refine Ev.step (f := fun k => (laws_r8Traces.f k a a).bind fun t310 => (if t310 = true then ((laws_r8Traces.f k b b).bind fun t311 => (some t311)) else (some false))) (fun k => by rw [laws_FnMergedTraces.l1, if_neg (by omega)]) ?_
    refine Ev.bind (traces_refl a (by omega)) ?_
    simp only [if_pos rfl]
    exact Ev.bind (traces_refl b (by omega)) (Ev.now _)
  | succ d ih =>
    intro n i j hd hn h1 h2 h3
    have hn2 : n < T.length := by omega
    have hn3 : n < L.length := by omega
    have e := Aside0.mk (show wrap64 ((n : Int) + 1) = ((n + 1 : Nat) : Int) by rw [wid (by omega) (by omega)]; omega)
    have g1 : (n : Int) < (L.length : Int) := by omega
    have g2 : (0 : Int) ≤ (n : Int) := by omega
    have g3 : (n : Int) < (T.length : Int) := by omega
    rw [gdrop 0 T n hn2] at h1 h2 h3
    rw [gdrop z45 L n hn3, mgl] at h1
    rw [cz] at h2
    rw [co] at h3
    have lt1 : (a.take i).length < 8796093022208 := by rw [List.length_take]; omega
    have lt2 : (b.take j).length < 8796093022208 := by rw [List.length_take]; omega
    by_cases q : T.getD n 0 = 0
    · rw [if_pos q] at h1 h2 h3
      injection h1 with h1 h4
      have hx := ih (n + 1) (i + 1) j (by omega) (by omega) h4 (by omega) (by omega)
      rw [← tsnoc a i (by omega), ← h1] at hx
      refine Ev.step (fun k => ?_) hx
      rw [laws_FnMergedTraces.l1, if_pos g1, if_pos g2, if_pos g3, rd_nat, if_pos q, if_pos lt1, rdA, e.out]
    · rw [if_neg q] at h1 h2 h3
      injection h1 with h1 h4
      have hx := ih (n + 1) i (j + 1) (by omega) (by omega) h4 (by omega) (by omega)
      rw [← tsnoc b j (by omega), ← h1] at hx
      refine Ev.step (fun k => ?_) hx
      rw [laws_FnMergedTraces.l1, if_pos g1, if_pos g2, if_pos g3, rd_nat, if_neg q, if_pos lt2, rdA, e.out]
theorem turns_end (a b : List S45) (ha : traceOk a = true) (hb : traceOk b = true) (l1 : List Int) (T : List Int) (h01 : ∀ t ∈ T, t = 0 ∨ t = 1) (hz : cz T = a.length) (ho : co T = b.length) (i : Int) : Ev (fun k => laws_FnMergedTraces.l0 k l1 a b T 0 0 i) true := by
  have la := traceOk_len ha
  have lb := traceOk_len hb
  have lT := czo_len T
  refine Ev.step (f := fun k => (impl_MergeTraces.f k a b T).bind fun bt291 => (if (bt291.2 != (decide ((T.length : Int) ≤ 60))) = true then (some false) else (if bt291.2 = true then (if (bt291.1.length : Int) = (T.length : Int) then (laws_FnMergedTraces.l1 k a b T bt291.1 (([] : List S45)) (([] : List S45)) 0) else (some false)) else (some true)))) (fun k => by rw [laws_FnMergedTraces.l0, if_neg (show ¬ (wrap64 ((0 : Int) + 0) > 0) by unfold wrap64; omega)]) ?_
  have hm : ∀ k, impl_MergeTraces.f k a b T = if (T.length : Int) > 60 then (impl_MergeTraces.j0 k a b T true) else ((impl_allIn.f T 0 1).bind fun t248 => (if t248 = true then (impl_MergeTraces.j0 k a b T ((T.length : Int) != (wrap64 ((a.length : Int) + (b.length : Int))))) else (impl_MergeTraces.j0 k a b T true))) := fun k => by
    unfold impl_MergeTraces.f
    simp only [impl_trace, Option.bind_some, if_pos ha, if_pos hb]
  by_cases q : (T.length : Int) > 60
  · refine Ev.bind (a := (([] : List S45), false)) ?_ ?_
    · simp only [hm, if_pos q]
      exact ev_ret (fun k => by rw [impl_MergeTraces.j0, if_pos rfl])
    · refine ev_all (fun k => ?_)
      rw [decide_eq_false (show ¬ (T.length : Int) ≤ 60 by omega), if_neg (by decide), if_neg (by decide)]
  · have hall : (T.all fun x => decide (0 ≤ x) && decide (x ≤ 1)) = true := by
      rw [List.all_eq_true]
      intro x hx
      rcases h01 x hx with rfl | rfl <;> rfl
    have e : mg a b T [] 0 0 = (mgl a b T 0 0, true) := by rw [mg_mgl a b T [] 0 0 h01 (by omega) (by omega), List.nil_append]
    refine Ev.bind (a := (mgl a b T 0 0, true)) ?_ ?_
    · have e10 : ((T.length : Int) != (wrap64 ((a.length : Int) + (b.length : Int)))) = false := by
        rw [wid (by omega) (by omega), show (a.length : Int) + (b.length : Int) = (T.length : Int) by omega, bne_self_eq_false]
      have e9 : ∀ k, impl_MergeTraces.f k a b T = impl_MergeTraces.j0 k a b T false := fun k => by
        rw [hm, if_neg q, ← e10]
        unfold impl_allIn.f
        rw [hall, Option.bind_some, if_pos rfl]
      simp only [e9]
      refine Ev.step (f := fun k => impl_MergeTraces.l0 k a b (([] : List S45)) 0 0 T (T.length : Int) 0) (fun k => ?_) ?_
      · rw [impl_MergeTraces.j0, if_neg (by decide)]
      · have := impl_mg a b T la lb (by omega) T.length 0 [] 0 0 (by omega) (by omega) (by simp) (by omega) (by omega)
        rw [List.drop_zero, e] at this
        exact this
    · have hl := mgl_len a b T 0 0
      have := split_l1 a b la lb T (mgl a b T 0 0) (by omega) hl T.length 0 0 0 (by omega) (by omega) (by rw [List.drop_zero, List.drop_zero]) (by rw [List.drop_zero]; omega) (by rw [List.drop_zero]; omega)
      rw [List.take_zero, List.take_zero] at this
      simp only [decide_eq_true (show (T.length : Int) ≤ 60 by omega), bne_self_eq_false, if_neg (show ¬ (false = true) by decide), if_true, hl]
      exact this
theorem r8At_any (l : List Int) (u : ∀ x ∈ l, (Lit.int .u8 x).wf = true) (i : Int) (h0 : 0 ≤ i) : ∃ t, laws_r8At.f l i 2 = some t := by
  unfold laws_r8At.f
  rw [if_neg (by omega)]
  by_cases h : i ≥ (l.length : Int)
  · exact ⟨0, by rw [if_pos h]⟩
  · exact ⟨_, by rw [if_neg h, if_pos h0, if_pos (by omega), if_neg (by omega)]⟩
theorem turns_l0 (a b : List S45) (ha : traceOk a = true) (hb : traceOk b = true) (l1 : List Int) (u : ∀ x ∈ l1, (Lit.int .u8 x).wf = true) (m : Nat) : ∀ (T : List Int) (x y : Nat) (i : Nat), x + y = m → (∀ t ∈ T, t = 0 ∨ t = 1) → cz T + x = a.length → co T + y = b.length → i + m ≤ 1000 → Ev (fun k => laws_FnMergedTraces.l0 k l1 a b T (x : Int) (y : Int) (i : Int)) true := by
  have la := traceOk_len ha
  have lb := traceOk_len hb
  induction m with
  | zero =>
    intro T x y i hm h01 hz ho hi
    obtain rfl : x = 0 := by omega
    obtain rfl : y = 0 := by omega
    exact turns_end a b ha hb l1 T h01 (by omega) (by omega) i
  | succ m ih =>
    intro T x y i hm h01 hz ho hi
    have lT := czo_len T
    have w0 := Aside0.mk (show wrap64 ((x : Int) + (y : Int)) = (x : Int) + (y : Int) from wid (by omega) (by omega))
    have w1 := Aside0.mk (show wrap64 ((i : Int) + 1) = ((i + 1 : Nat) : Int) by rw [wid (by omega) (by omega)]; omega)
    have g0 : (x : Int) + (y : Int) > 0 := by omega
    have lt : T.length < 17592186044416 := by omega
    have z0 : cz (T ++ [0]) = cz T + 1 ∧ co (T ++ [0]) = co T := by rw [cz_app, co_app]; exact ⟨rfl, rfl⟩
    have z1 : cz (T ++ [1]) = cz T ∧ co (T ++ [1]) = co T + 1 := by rw [cz_app, co_app]; exact ⟨rfl, rfl⟩
    have n0 : ∀ t ∈ T ++ [0], t = 0 ∨ t = 1 := fun t ht => by
      rcases List.mem_append.1 ht with ht | ht
      · exact h01 t ht
      · exact .inl (List.mem_singleton.1 ht)
    have n1 : ∀ t ∈ T ++ [1], t = 0 ∨ t = 1 := fun t ht => by
      rcases List.mem_append.1 ht with ht | ht
      · exact h01 t ht
      · exact .inr (List.mem_singleton.1 ht)
    have st0 : 0 < x → Ev (fun k => laws_FnMergedTraces.l0 k l1 a b (T ++ [0]) (wrap64 ((x : Int) - 1)) (y : Int) ((i + 1 : Nat) : Int)) true := fun hx => by
      have := ih (T ++ [0]) (x - 1) y (i + 1) (by omega) n0 (by omega) (by omega) (by omega)
      rw [wid (by omega) (by omega), show (x : Int) - 1 = ((x - 1 : Nat) : Int) by omega]
      exact this
    have st1 : 0 < y → Ev (fun k => laws_FnMergedTraces.l0 k l1 a b (T ++ [1]) (x : Int) (wrap64 ((y : Int) - 1)) ((i + 1 : Nat) : Int)) true := fun hy => by
      have := ih (T ++ [1]) x (y - 1) (i + 1) (by omega) n1 (by omega) (by omega) (by omega)
      rw [wid (by omega) (by omega), show (y : Int) - 1 = ((y - 1 : Nat) : Int) by omega]
      exact this
    by_cases hy : (y : Int) = 0
    · refine Ev.step (fun k => ?_) (st0 (by omega))
      rw [laws_FnMergedTraces.l0, w0.out, if_pos g0, if_pos hy, if_pos lt, w1.out]
    · by_cases hx : (x : Int) > 0
      · obtain ⟨t, et⟩ := r8At_any l1 u (i : Int) (by omega)
        by_cases ht : t = 0
        · refine Ev.step (fun k => ?_) (st0 (by omega))
          rw [laws_FnMergedTraces.l0, w0.out, if_pos g0, if_neg hy, if_pos hx, et, Option.bind_some, if_pos ht, if_pos lt, w1.out]
        · refine Ev.step (fun k => ?_) (st1 (by omega))
          rw [laws_FnMergedTraces.l0, w0.out, if_pos g0, if_neg hy, if_pos hx, et, Option.bind_some, if_neg ht, if_pos lt, w1.out]
      · refine Ev.step (fun k => ?_) (st1 (by omega))
        rw [laws_FnMergedTraces.l0, w0.out, if_pos g0, if_neg hy, if_neg hx, if_pos lt, w1.out]
theorem text_szi (t : List S45) (h : traceOk t = true) : (textT t).size ≤ 100000 := by
  have h2 := traceOk_len h
  have h1 := join_len 24 (wds t.length t) [32] (by simp) (wds_word t.length t (by omega) (fun x hx => (traceOk_mem h hx).2.2))
  have h3 := wds_len t.length t
  rw [ba_size]
  show (Go.Lib.join (wds t.length t) [32]).length ≤ _
  omega
theorem FnMergedTraces : laws_FnMergedTraces.Pure := by
  intro l0 l1 hl0 hl1
  refine Ev.rounds (r := true) ?_
  unfold laws_FnMergedTraces.f
  obtain ⟨bb, eb⟩ : ∃ bb, laws_r8Long.f l0 l1 = some bb := by unfold laws_r8Long.f; split <;> exact ⟨_, rfl⟩
  simp only [eb, Option.bind_some]
  by_cases hb : bb = true
  · simp only [if_pos hb]; exact Ev.now _
  simp only [if_neg hb]
  obtain ⟨a, ea, ha⟩ := r8trace l0 hl0.2
  obtain ⟨b, eb2, hb2⟩ := r8trace l1 hl1.2
  have et : Ev (fun k => impl_TraceText.f k a) (textT a, true) := by
    unfold impl_TraceText.f
    simp only [impl_trace, ha, Option.bind_some, if_pos rfl]
    exact Ev.bind (impl_textT a ha) (Ev.now _)
  have er : Ev (fun k => impl_ReadTrace.f k (textT a)) (a, true) := by
    have h := impl_rt (textT a) (by have := text_szi a ha; omega)
    rw [RT_text (textT a) a ha rfl] at h
    exact h
  have la := traceOk_len ha
  have lb := traceOk_len hb2
  refine Ev.bind ea (Ev.bind eb2 (Ev.bind et (Ev.bind er ?_)))
  simp only [if_pos rfl]
  refine Ev.bind (traces_refl a (by omega)) ?_
  refine Ev.step (fun k => ?_) (turns_l0 a b ha hb2 l1 hl1.2 (a.length + b.length) [] a.length b.length 0 rfl (fun t ht => absurd ht (by simp)) (by show 0 + _ = _; omega) (by show 0 + _ = _; omega) (by omega))
  rw [laws_FnMergedTraces.j0, if_neg (by decide)]
  rfl

end Go.Proofs.YtbfcnacllonnbaaDoor.Pure
