/- The program's ReadTrace returns what the reference's returns, for every text, in new memory. Conditions: those of the card alone. -/
import Derived.Test.YtbfcnacllonnbaaDoorPFnExactReadTracey
namespace Go.Proofs.YtbfcnacllonnbaaDoor.Pure
open Go.RowKit Go.Proofs.YtbfcnacllonnbaaDoor.PFnExactReadTrace Go.Proofs.YtbfcnacllonnbaaDoorW.PrintWords Go.Proofs.YtbfcnacllonnbaaDoorW.PrintLast Go.Proofs.YtbfcnacllonnbaaDoorW.PrintMore
set_option linter.unusedVariables false
set_option linter.unusedSimpArgs false

theorem wid {x : Int} (h1 : -9223372036854775808 ≤ x) (h2 : x < 9223372036854775808) : wrap64 x = x := by unfold wrap64; omega
theorem i64_bd {x : Int} (h : (Lit.int .i64 x).wf = true) : -9223372036854775808 ≤ x ∧ x ≤ 9223372036854775807 := by
  simp only [Lit.wf, IntKind.min, IntKind.max, IntKind.signed, IntKind.bits, Bool.and_eq_true, decide_eq_true_eq, if_true] at h
  omega
/-- A loop's step, its answer known at once. -/
theorem ev_ret {α : Type} {g : Nat → Option α} {r : α} (h : ∀ k, g (k + 1) = some r) : Ev g r := Ev.step (f := fun _ => some r) h (Ev.now r)
theorem ev_all {α : Type} {g : Nat → Option α} {r : α} (h : ∀ k, g k = some r) : Ev g r := ⟨0, fun k _ => h k⟩

/-! the decimal numeral -/
theorem dd_big {u : Nat} (h : ¬ u < 10) : Go.Lib.decDigits u = Go.Lib.decDigits (u / 10) ++ [UInt8.ofNat (48 + u % 10)] := by rw [Go.Lib.decDigits, dif_neg h]
theorem dd_ind {p : Nat → Prop} (h1 : ∀ u, u < 10 → p u) (h2 : ∀ u, ¬ u < 10 → p (u / 10) → p u) (u : Nat) : p u := by
  induction u using Nat.strongRecOn with
  | _ u ih =>
    by_cases h : u < 10
    · exact h1 u h
    · exact h2 u h (ih (u / 10) (by omega))
theorem dg_nat {d : Nat} (h : d < 10) : (UInt8.ofNat (48 + d)).toNat = 48 + d := by
  have e : (UInt8.ofNat (48 + d)).toNat = (48 + d) % 256 := rfl
  rw [e]; omega
theorem dd_ne (u : Nat) : Go.Lib.decDigits u ≠ [] := by
  refine dd_ind (p := fun u => Go.Lib.decDigits u ≠ []) (fun u h => ?_) (fun u h _ => ?_) u
  · rw [Go.Lib.decDigits_one h]; simp
  · rw [dd_big h]; simp
theorem dd_dig (u : Nat) : ∀ c ∈ Go.Lib.decDigits u, 48 ≤ c.toNat ∧ c.toNat ≤ 57 := by
  refine dd_ind (p := fun u => ∀ c ∈ Go.Lib.decDigits u, 48 ≤ c.toNat ∧ c.toNat ≤ 57) (fun u h c hc => ?_) (fun u h ih c hc => ?_) u
  · rw [Go.Lib.decDigits_one h, List.mem_singleton] at hc
    rw [hc, dg_nat h]; omega
  · rw [dd_big h, List.mem_append, List.mem_singleton] at hc
    rcases hc with hc | hc
    · exact ih c hc
    · rw [hc, dg_nat (by omega)]; omega
def vl (a : Nat) (l : List UInt8) : Nat := l.foldl (fun a c => a * 10 + (c.toNat - 48)) a
theorem vl_cons (a : Nat) (c : UInt8) (l : List UInt8) : vl a (c :: l) = vl (a * 10 + (c.toNat - 48)) l := by unfold vl; rw [List.foldl_cons]
theorem vl_app (a : Nat) (l : List UInt8) (c : UInt8) : vl a (l ++ [c]) = vl a l * 10 + (c.toNat - 48) := by unfold vl; rw [List.foldl_append]; rfl
theorem vl_dd (u : Nat) : vl 0 (Go.Lib.decDigits u) = u := by
  refine dd_ind (p := fun u => vl 0 (Go.Lib.decDigits u) = u) (fun u h => ?_) (fun u h ih => ?_) u
  · rw [Go.Lib.decDigits_one h, vl_cons, dg_nat h]
    show 0 * 10 + (48 + u - 48) = u
    omega
  · rw [dd_big h, vl_app, ih, dg_nat (by omega)]; omega
theorem vl_ge : ∀ (l : List UInt8) (a : Nat), a ≤ vl a l
  | [], a => Nat.le_refl _
  | c :: l, a => by have := vl_ge l (a * 10 + (c.toNat - 48)); rw [vl_cons]; omega
theorem pu_ok : ∀ (l : List UInt8) (acc : Nat), (∀ c ∈ l, 48 ≤ c.toNat ∧ c.toNat ≤ 57) → vl acc l ≤ 1000000000000000000 → Go.Lib.parseUintM (2 ^ 64 - 1) acc l = .ok (vl acc l)
  | [], acc, _, _ => rfl
  | c :: l, acc, h, hv => by
    have hc := h c (List.mem_cons_self ..)
    have hg := vl_ge l (acc * 10 + (c.toNat - 48))
    rw [vl_cons] at hv
    rw [Go.Lib.parseUintM, if_pos hc, if_neg (by omega), if_neg (by omega), vl_cons]
    exact pu_ok l _ (fun c hc => h c (List.mem_cons_of_mem _ hc)) hv
theorem dd_len {u k : Nat} (h : u < 10 ^ (k + 1)) : (Go.Lib.decDigits u).length ≤ k + 1 := by
  induction k generalizing u with
  | zero => rw [Go.Lib.decDigits_one (by simpa using h)]; simp
  | succ k ih =>
    by_cases c : u < 10
    · rw [Go.Lib.decDigits_one c]; simp
    · rw [dd_big c, List.length_append, List.length_singleton]
      have := ih (u := u / 10) (by rw [Nat.pow_succ] at h; omega)
      omega
theorem itoa_len {n : Int} (h1 : -1000000000 ≤ n) (h2 : n ≤ 1000000000) : (Go.Lib.itoa n).length ≤ 11 := by
  unfold Go.Lib.itoa
  split
  · rw [List.length_cons]
    have := dd_len (u := n.natAbs) (k := 9) (by omega)
    omega
  · have := dd_len (u := n.toNat) (k := 9) (by omega)
    omega
theorem itoa_ne (n : Int) : Go.Lib.itoa n ≠ [] := by
  unfold Go.Lib.itoa
  split
  · simp
  · exact dd_ne _
/-- The numeral is read back. -/
theorem parse_itoa {n : Int} (h1 : -1000000000 ≤ n) (h2 : n ≤ 1000000000) : Go.Lib.parseIntB 64 (Go.Lib.itoa n) = .ok n := by
  unfold Go.Lib.itoa
  by_cases c : n < 0
  · rw [if_pos c]
    have e := pu_ok (Go.Lib.decDigits n.natAbs) 0 (dd_dig _) (by rw [vl_dd]; omega)
    rw [vl_dd] at e
    have e2 : Go.Lib.parseUintB 64 (Go.Lib.decDigits n.natAbs) = .ok n.natAbs := by unfold Go.Lib.parseUintB; rw [if_neg (dd_ne _)]; exact e
    unfold Go.Lib.parseIntB
    simp only [show ((45 : UInt8).toNat = 43 ∨ (45 : UInt8).toNat = 45) from Or.inr rfl, if_true, e2]
    rw [if_neg (by rintro ⟨h, -⟩; exact h rfl), if_neg (by rintro ⟨-, h⟩; simp at h; omega), if_pos (show (45 : UInt8).toNat = 45 from rfl)]
    congr 1
    omega
  · rw [if_neg c]
    have e := pu_ok (Go.Lib.decDigits n.toNat) 0 (dd_dig _) (by rw [vl_dd]; omega)
    rw [vl_dd] at e
    have e2 : Go.Lib.parseUintB 64 (Go.Lib.decDigits n.toNat) = .ok n.toNat := by unfold Go.Lib.parseUintB; rw [if_neg (dd_ne _)]; exact e
    have hd := dd_dig n.toNat
    generalize Go.Lib.decDigits n.toNat = l at e2 hd
    cases l with
    | nil => exact absurd e2 (by unfold Go.Lib.parseUintB; rw [if_pos rfl]; simp)
    | cons x l =>
      have hx := hd x (List.mem_cons_self ..)
      unfold Go.Lib.parseIntB
      simp only [show ¬ (x.toNat = 43 ∨ x.toNat = 45) by omega, if_false, e2]
      rw [if_neg (by rintro ⟨-, h⟩; simp at h; omega), if_neg (by rintro ⟨h, -⟩; omega), if_neg (by omega)]
      congr 1
      omega
theorem itoa_inj {n m : Int} (h1 : -1000000000 ≤ n) (h2 : n ≤ 1000000000) (h3 : -1000000000 ≤ m) (h4 : m ≤ 1000000000) (h : Go.Lib.itoa n = Go.Lib.itoa m) : n = m := by
  have a := parse_itoa h1 h2
  rw [h, parse_itoa h3 h4] at a
  injection a with a
  exact a.symm
theorem ba_ext {a b : ByteArray} (h : a.data.toList = b.data.toList) : a = b := by
  cases a with | mk x => cases b with | mk y => exact congrArg ByteArray.mk (Array.toList_inj.1 h)
theorem ba_list (l : List UInt8) : (⟨l.toArray⟩ : ByteArray).data.toList = l := rfl
theorem ba_mk (s : ByteArray) : (⟨s.data.toList.toArray⟩ : ByteArray) = s := ba_ext rfl
theorem ba_size (s : ByteArray) : s.size = s.data.toList.length := by rw [Array.length_toList]; rfl
theorem bt_list (s : ByteArray) (i : Nat) (h : i < s.data.toList.length) : bt s (i : Int) = ((s.data.toList[i]'h).toNat : Int) := by
  have h' : i < s.size := by rw [ba_size]; exact h
  unfold bt
  rw [dif_pos (by rw [Int.toNat_natCast]; exact h')]
  simp only [Int.toNat_natCast, Array.getElem_toList]
  rfl
theorem bt_cons (s : ByteArray) (i : Nat) (c : UInt8) (l : List UInt8) (h : s.data.toList.drop i = c :: l) : i < s.size ∧ bt s (i : Int) = (c.toNat : Int) ∧ s.data.toList.drop (i + 1) = l := by
  have hl : i < s.data.toList.length := by
    have := congrArg List.length h
    rw [List.length_drop, List.length_cons] at this
    omega
  rw [List.drop_eq_getElem_cons hl] at h
  injection h with h1 h2
  refine ⟨by rw [ba_size]; exact hl, ?_, h2⟩
  rw [bt_list s i hl, h1]

/-! texts joined -/
theorem join_snoc (xs : List (List UInt8)) (h : xs ≠ []) (y s : List UInt8) : Go.Lib.join (xs ++ [y]) s = Go.Lib.join xs s ++ s ++ y := by
  cases xs with
  | nil => exact absurd rfl h
  | cons x r =>
    rw [List.cons_append, Go.Lib.join_cons, Go.Lib.join_cons]
    unfold Go.Lib.joinTail
    rw [List.map_append, List.flatten_append]
    simp
theorem join_len (c : Nat) : ∀ (xs : List (List UInt8)) (s : List UInt8), s.length ≤ 1 → (∀ x ∈ xs, x.length ≤ c) → (Go.Lib.join xs s).length ≤ (c + 1) * xs.length
  | [], s, _, _ => by rw [Go.Lib.join_nil]; simp
  | x :: r, s, hs, h => by
    rw [Go.Lib.join_cons, List.length_append, Go.Lib.joinTail_length]
    have hx := h x (List.mem_cons_self ..)
    have hl : ∀ (r : List (List UInt8)), (∀ x ∈ r, x.length ≤ c) → Go.Lib.lens r ≤ c * r.length := by
      intro r
      induction r with
      | nil => intro _; simp [Go.Lib.lens]
      | cons a r ih =>
        intro h
        have h1 := ih (fun x hx => h x (List.mem_cons_of_mem _ hx))
        have h2 := h a (List.mem_cons_self ..)
        unfold Go.Lib.lens at h1 ⊢
        rw [List.map_cons, List.sum_cons, List.length_cons, Nat.mul_succ]
        omega
    have h1 := hl r (fun x hx => h x (List.mem_cons_of_mem _ hx))
    have h2 : s.length * r.length ≤ 1 * r.length := Nat.mul_le_mul_right _ hs
    rw [List.length_cons, Nat.mul_succ, Nat.add_mul]
    omega
theorem join_ne (x : List UInt8) (r : List (List UInt8)) (s : List UInt8) (h : x ≠ []) : Go.Lib.join (x :: r) s ≠ [] := by
  rw [Go.Lib.join_cons]
  cases x with
  | nil => exact absurd rfl h
  | cons a x => simp

/-! texts and their bytes; the numeral's text -/
theorem str1 (x : Int) : strOfNums [x] = ⟨#[UInt8.ofNat x.toNat]⟩ := rfl
theorem ba_app (a b : ByteArray) : (a ++ b).data.toList = a.data.toList ++ b.data.toList := by
  rw [ByteArray.data_append, Array.toList_append]
theorem ba_len (a : ByteArray) : a.size = a.data.toList.length := ba_size a
/-- The numeral's text. -/
def decT (n : Int) : ByteArray := ⟨(Go.Lib.itoa n).toArray⟩

theorem impl_dec (n : Int) (h0 : -9223372036854775808 ≤ n) (h1 : n ≤ 9223372036854775807) : impl_Decimal.f n = some (decT n) := by unfold impl_Decimal.f; rw [if_pos ⟨h0, h1⟩]; rfl

theorem getD_set (xs : List Int) (i j : Nat) (v : Int) (hi : i < xs.length) : (xs.set i v).getD j 0 = if i = j then v else xs.getD j 0 := by
  rw [List.getD_eq_getElem?_getD, List.getElem?_set]
  by_cases e : i = j
  · subst e; rw [if_pos rfl, if_pos hi, if_pos rfl]; rfl
  · rw [if_neg e, if_neg e, List.getD_eq_getElem?_getD]
theorem ext_getD {xs ys : List Int} (h : xs.length = ys.length) (he : ∀ j, j < xs.length → xs.getD j 0 = ys.getD j 0) : xs = ys := by
  apply List.ext_getElem h
  intro j h1 h2
  have := he j h1
  rwa [List.getD_eq_getElem?_getD, List.getD_eq_getElem?_getD, List.getElem?_eq_getElem h1, List.getElem?_eq_getElem h2] at this
theorem rd_nat (xs : List Int) (i : Nat) : rd xs (i : Int) = xs.getD i 0 := by unfold rd; rw [Int.toNat_natCast]
theorem rd_mem (xs : List Int) (i : Nat) (h : i < xs.length) : rd xs (i : Int) ∈ xs := by
  rw [rd_nat, List.getD_eq_getElem?_getD, List.getElem?_eq_getElem h]
  exact List.getElem_mem _
theorem take_snoc (xs : List Int) (i : Nat) (h : i < xs.length) : xs.take (i + 1) = xs.take i ++ [rd xs (i : Int)] := by
  rw [List.take_succ_eq_append_getElem h, rd_nat, List.getD_eq_getElem?_getD, List.getElem?_eq_getElem h]
  rfl
theorem drop_cons (xs : List Int) (i : Nat) (h : i < xs.length) : xs.drop i = rd xs (i : Int) :: xs.drop (i + 1) := by
  rw [List.drop_eq_getElem_cons h, rd_nat, List.getD_eq_getElem?_getD, List.getElem?_eq_getElem h]
  rfl

theorem gset {α : Type} (d : α) (xs : List α) (i j : Nat) (v : α) (hi : i < xs.length) : (xs.set i v).getD j d = if i = j then v else xs.getD j d := by
  rw [List.getD_eq_getElem?_getD, List.getElem?_set]
  by_cases e : i = j
  · subst e; rw [if_pos rfl, if_pos hi, if_pos rfl]; rfl
  · rw [if_neg e, if_neg e, List.getD_eq_getElem?_getD]
theorem gext {α : Type} (d : α) {xs ys : List α} (h : xs.length = ys.length) (he : ∀ j, j < xs.length → xs.getD j d = ys.getD j d) : xs = ys := by
  apply List.ext_getElem h
  intro j h1 h2
  have := he j h1
  rwa [List.getD_eq_getElem?_getD, List.getD_eq_getElem?_getD, List.getElem?_eq_getElem h1, List.getElem?_eq_getElem h2] at this
theorem gmem {α : Type} (d : α) (xs : List α) (i : Nat) (h : i < xs.length) : xs.getD i d ∈ xs := by
  rw [List.getD_eq_getElem?_getD, List.getElem?_eq_getElem h]
  exact List.getElem_mem _
theorem gdrop {α : Type} (d : α) (xs : List α) (i : Nat) (h : i < xs.length) : xs.drop i = xs.getD i d :: xs.drop (i + 1) := by
  rw [List.drop_eq_getElem_cons h, List.getD_eq_getElem?_getD, List.getElem?_eq_getElem h]
  rfl
theorem gmap {α β : Type} (d : α) (e : β) (f : α → β) (xs : List α) (i : Nat) (h : i < xs.length) : (xs.map f).getD i e = f (xs.getD i d) := by
  rw [List.getD_eq_getElem?_getD, List.getD_eq_getElem?_getD, List.getElem?_map, List.getElem?_eq_getElem h]
  rfl

/-! accesses -/
theorem rdA (xs : List S45) (i : Nat) : rd_T45 xs (i : Int) = xs.getD i z45 := by unfold rd_T45; rw [Int.toNat_natCast]

def traceOk (l : List S45) : Bool := decide (l.length ≤ 60) && l.all accOk
theorem impl_trace (l : List S45) : impl_ValidTrace.f l = some (traceOk l) := rfl
theorem traceOk_len {l : List S45} (h : traceOk l = true) : l.length ≤ 60 := by
  unfold traceOk at h
  rw [Bool.and_eq_true] at h
  exact of_decide_eq_true h.1
theorem traceOk_mem {l : List S45} (h : traceOk l = true) {x : S45} (hx : x ∈ l) : 0 ≤ x.f0 ∧ x.f0 ≤ 1 ∧ 0 ≤ x.f1 ∧ x.f1 ≤ 63 := by
  unfold traceOk at h
  rw [Bool.and_eq_true, List.all_eq_true] at h
  exact of_decide_eq_true (h.2 x hx)

/-! the words of a trace -/
def wordL (x : S45) (m : Nat) : List UInt8 := Go.Lib.itoa x.f1 ++ (if x.f0 = 1 then [119] else []) ++ (if 1 < m then 42 :: Go.Lib.itoa (m : Int) else [])
/-- How many lead that are like x. -/
def same (x : S45) : List S45 → Nat
  | [] => 0
  | y :: l => if ((y.f0 == x.f0) && (y.f1 == x.f1)) = true then same x l + 1 else 0
theorem same_le (x : S45) : ∀ (l : List S45), same x l ≤ l.length
  | [] => Nat.le_refl _
  | y :: l => by
    rw [same]
    have := same_le x l
    split
    · rw [List.length_cons]; omega
    · omega
/-- The words: n is at least the length. -/
def wds : Nat → List S45 → List (List UInt8)
  | 0, _ => []
  | _ + 1, [] => []
  | n + 1, x :: l => wordL x (same x l + 1) :: wds n (l.drop (same x l))
theorem wds_nil (n : Nat) : wds n [] = [] := by cases n <;> rfl
theorem wds_len : ∀ (n : Nat) (l : List S45), (wds n l).length ≤ l.length
  | 0, _ => by rw [wds]; simp
  | n + 1, [] => by rw [wds]; simp
  | n + 1, x :: l => by
    rw [wds, List.length_cons, List.length_cons]
    have := wds_len n (l.drop (same x l))
    rw [List.length_drop] at this
    omega
theorem wordL_len (x : S45) (m : Nat) (h1 : 0 ≤ x.f1 ∧ x.f1 ≤ 63) (hm : m ≤ 1000) : (wordL x m).length ≤ 24 := by
  unfold wordL
  have h2 := itoa_len (n := x.f1) (by omega) (by omega)
  have h3 := itoa_len (n := (m : Int)) (by omega) (by omega)
  rw [List.length_append, List.length_append]
  split <;> split <;> simp only [List.length_cons, List.length_nil] <;> omega
theorem wds_word : ∀ (n : Nat) (l : List S45), l.length ≤ 999 → (∀ x ∈ l, 0 ≤ x.f1 ∧ x.f1 ≤ 63) → ∀ w ∈ wds n l, w.length ≤ 24
  | 0, _, _, _, w, hw => by rw [wds] at hw; cases hw
  | n + 1, [], _, _, w, hw => by rw [wds] at hw; cases hw
  | n + 1, x :: l, hl, h, w, hw => by
    rw [wds] at hw
    rw [List.length_cons] at hl
    rcases List.mem_cons.1 hw with rfl | hw
    · have := same_le x l
      exact wordL_len x _ (h x (List.mem_cons_self ..)) (by omega)
    · exact wds_word n (l.drop (same x l)) (by rw [List.length_drop]; omega) (fun y hy => h y (List.mem_cons_of_mem _ (List.mem_of_mem_drop hy))) w hw
def mkB (l : List UInt8) : ByteArray := ⟨l.toArray⟩
def textT (t : List S45) : ByteArray := mkB (Go.Lib.join (wds t.length t) [32])

/-! the program's text of a trace -/
theorem ti_l1 (t : List S45) (ht : t.length ≤ 60) (P : List ByteArray) (i : Nat) (hi : i < t.length) {r : ByteArray} : ∀ (l : List S45) (j : Nat), t.drop j = l → j ≤ t.length → Ev (fun k => impl_traceText.j2 k t P (i : Int) ((j + same (t.getD i z45) l : Nat) : Int)) r → Ev (fun k => impl_traceText.l1 k t P (i : Int) (j : Int)) r
  | [], j, hd, hj, h => by
    have : j = t.length := by
      have := congrArg List.length hd
      rw [List.length_drop, List.length_nil] at this
      omega
    rw [same, Nat.add_zero] at h
    exact Ev.step (fun k => by rw [impl_traceText.l1, if_neg (by omega)]) h
  | y :: l, j, hd, hj, h => by
    have hl : j < t.length := by
      have := congrArg List.length hd
      rw [List.length_drop, List.length_cons] at this
      omega
    rw [gdrop z45 t j hl] at hd
    injection hd with h1 h2
    have e2 : wrap64 ((j : Int) + 1) = ((j + 1 : Nat) : Int) := by rw [wid (by omega) (by omega)]; omega
    rw [same] at h
    by_cases c : ((y.f0 == (t.getD i z45).f0) && (y.f1 == (t.getD i z45).f1)) = true
    · rw [if_pos c, show j + (same (t.getD i z45) l + 1) = (j + 1) + same (t.getD i z45) l by omega] at h
      refine Ev.step (fun k => ?_) (ti_l1 t ht P i hi l (j + 1) h2 (by omega) h)
      rw [impl_traceText.l1, if_pos (by omega), if_pos (by omega), if_pos (by omega), if_pos (by omega), rdA, rdA, h1, if_pos c, e2]
    · rw [if_neg c, Nat.add_zero] at h
      refine Ev.step (fun k => ?_) h
      rw [impl_traceText.l1, if_pos (by omega), if_pos (by omega), if_pos (by omega), if_pos (by omega), rdA, rdA, h1, if_neg c]
theorem ti_j2 (t : List S45) (ht : t.length ≤ 60) (P : List ByteArray) (i j : Nat) (hi : i < t.length) (hj : i < j) (hj2 : j ≤ 60) (hP : P.length ≤ 60) (x : S45) (hx : t.getD i z45 = x) (hb : 0 ≤ x.f1 ∧ x.f1 ≤ 63) {r : ByteArray} (h : Ev (fun k => impl_traceText.l0 k t (P ++ [mkB (wordL x (j - i))]) (j : Int)) r) :
    Ev (fun k => impl_traceText.j2 k t P (i : Int) (j : Int)) r := by
  refine Ev.step (fun k => ?_) h
  have hw : wrap64 ((j : Int) - (i : Int)) = ((j - i : Nat) : Int) := by rw [wid (by omega) (by omega)]; omega
  have s1 : (decT x.f1).size ≤ 11 := by rw [ba_size]; exact itoa_len (n := x.f1) (by omega) (by omega)
  have s2 : (decT ((j - i : Nat) : Int)).size ≤ 11 := by rw [ba_size]; exact itoa_len (n := ((j - i : Nat) : Int)) (by omega) (by omega)
  rw [impl_traceText.j2, if_pos (by omega), if_pos (by omega), rdA, hx, impl_dec _ (by omega) (by omega), Option.bind_some, hw]
  by_cases c : x.f0 = 1
  · rw [if_pos c, if_pos (by omega)]
    by_cases m : ((j - i : Nat) : Int) > 1
    · rw [if_pos m, impl_dec _ (by omega) (by omega), Option.bind_some, if_pos (by omega), if_pos (by rw [ByteArray.size_append, ByteArray.size_append]; show (decT x.f1).size + 1 + (1 + (decT ((j - i : Nat) : Int)).size) ≤ _; omega), if_pos (by omega)]
      have e : (decT x.f1 ++ (⟨#[119]⟩ : ByteArray)) ++ ((⟨#[42]⟩ : ByteArray) ++ decT ((j - i : Nat) : Int)) = mkB (wordL x (j - i)) := by
        apply ba_ext
        rw [ba_app, ba_app, ba_app]
        unfold wordL
        rw [if_pos c, if_pos (show 1 < j - i by omega)]
        rfl
      rw [e]
    · rw [if_neg m, if_pos (by omega)]
      have e : decT x.f1 ++ (⟨#[119]⟩ : ByteArray) = mkB (wordL x (j - i)) := by
        apply ba_ext
        rw [ba_app]
        unfold wordL
        rw [if_pos c, if_neg (show ¬ 1 < j - i by omega), List.append_nil]
        rfl
      rw [e]
  · rw [if_neg c]
    by_cases m : ((j - i : Nat) : Int) > 1
    · rw [if_pos m, impl_dec _ (by omega) (by omega), Option.bind_some, if_pos (by omega), if_pos (by rw [ByteArray.size_append]; show (decT x.f1).size + (1 + (decT ((j - i : Nat) : Int)).size) ≤ _; omega), if_pos (by omega)]
      have e : decT x.f1 ++ ((⟨#[42]⟩ : ByteArray) ++ decT ((j - i : Nat) : Int)) = mkB (wordL x (j - i)) := by
        apply ba_ext
        rw [ba_app, ba_app]
        unfold wordL
        rw [if_neg c, if_pos (show 1 < j - i by omega), List.append_nil]
        rfl
      rw [e]
    · rw [if_neg m, if_pos (by omega)]
      have e : decT x.f1 = mkB (wordL x (j - i)) := by
        apply ba_ext
        unfold wordL
        rw [if_neg c, if_neg (show ¬ 1 < j - i by omega), List.append_nil, List.append_nil]
        rfl
      rw [e]
theorem ti_l0 (t : List S45) (ht : t.length ≤ 60) (hv : ∀ x ∈ t, 0 ≤ x.f1 ∧ x.f1 ≤ 63) (n : Nat) : ∀ (i : Nat) (P : List (List UInt8)), t.length - i ≤ n → i ≤ t.length → P.length ≤ i → (∀ p ∈ P, p.length ≤ 24) →
    Ev (fun k => impl_traceText.l0 k t (P.map mkB) (i : Int)) (mkB (Go.Lib.join (P ++ wds n (t.drop i)) [32])) := by
  have fin : ∀ (i : Nat) (P : List (List UInt8)), i = t.length → P.length ≤ i → (∀ p ∈ P, p.length ≤ 24) → Ev (fun k => impl_traceText.l0 k t (P.map mkB) (i : Int)) (mkB (Go.Lib.join P [32])) := by
    intro i P hi hP hp
    refine ev_ret (fun k => ?_)
    have hj := join_len 24 P [32] (by simp) hp
    have e : (P.map mkB).map (fun x : ByteArray => x.data.toList) = P := by
      rw [List.map_map]
      exact List.map_id' P
    rw [impl_traceText.l0, if_neg (by omega)]
    unfold strings_Join.f
    rw [e, if_pos ⟨by rw [List.length_map]; omega, by show (Go.Lib.join P [32]).length ≤ _; omega⟩]
    rfl
  induction n with
  | zero =>
    intro i P hn hi hP hp
    rw [wds, List.append_nil]
    exact fin i P (by omega) hP hp
  | succ n ih =>
    intro i P hn hi hP hp
    by_cases c : i = t.length
    · rw [List.drop_eq_nil_of_le (by omega), wds, List.append_nil]
      exact fin i P c hP hp
    · have hl : i < t.length := by omega
      have hx := hv _ (gmem z45 t i hl)
      rw [gdrop z45 t i hl, wds]
      have hs := same_le (t.getD i z45) (t.drop (i + 1))
      rw [List.length_drop] at hs
      generalize hsv : same (t.getD i z45) (t.drop (i + 1)) = s at *
      have hd : (t.drop (i + 1)).drop s = t.drop (i + 1 + s) := by rw [List.drop_drop]
      rw [hd]
      have hw := wordL_len (t.getD i z45) (s + 1) hx (by omega)
      have h1 := ih (i + 1 + s) (P ++ [wordL (t.getD i z45) (s + 1)]) (by omega) (by omega) (by simp; omega) (fun p hp2 => by
        rcases List.mem_append.1 hp2 with h | h
        · exact hp p h
        · rw [List.mem_singleton] at h; rw [h]; exact hw)
      rw [List.append_assoc, List.singleton_append, List.map_append, List.map_cons, List.map_nil, show s + 1 = (i + 1 + s) - i by omega] at h1
      rw [show s + 1 = (i + 1 + s) - i by omega]
      have h2 := ti_j2 t ht (P.map mkB) i (i + 1 + s) hl (by omega) (by omega) (by simp; omega) _ rfl hx h1
      have h3 := ti_l1 t ht (P.map mkB) i hl (t.drop i) i rfl (by omega) (by
        rw [gdrop z45 t i hl, same, if_pos (by simp), hsv, show i + (s + 1) = i + 1 + s by omega]
        exact h2)
      refine Ev.step (fun k => ?_) h3
      rw [impl_traceText.l0, if_pos (by omega)]
theorem impl_textT (t : List S45) (h : traceOk t = true) : Ev (fun k => impl_traceText.f k t) (textT t) := by
  have := ti_l0 t (traceOk_len h) (fun x hx => (traceOk_mem h hx).2.2) t.length 0 [] (by omega) (by omega) (by simp) (fun p hp => by cases hp)
  exact this

/-! a text cut at a byte -/
def pcs (b : UInt8) : List UInt8 → List UInt8 → List (List UInt8)
  | cur, [] => [cur]
  | cur, c :: l => if c = b then cur :: pcs b [] l else pcs b (cur ++ [c]) l
theorem pcs_app (b : UInt8) : ∀ (a cur l : List UInt8), b ∉ a → pcs b cur (a ++ l) = pcs b (cur ++ a) l
  | [], cur, l, _ => by simp
  | c :: a, cur, l, h => by
    rw [List.cons_append, pcs, if_neg (fun e => h (by rw [e]; exact List.mem_cons_self ..)), pcs_app b a (cur ++ [c]) l (fun q => h (List.mem_cons_of_mem _ q))]
    simp
theorem pcs_len (b : UInt8) : ∀ (l cur w : List UInt8), w ∈ pcs b cur l → w.length ≤ cur.length + l.length
  | [], cur, w, h => by
    rw [pcs, List.mem_singleton] at h
    rw [h]; simp
  | c :: l, cur, w, h => by
    rw [pcs] at h
    split at h
    · rcases List.mem_cons.1 h with rfl | h
      · omega
      · have := pcs_len b l [] w h
        rw [List.length_nil] at this
        rw [List.length_cons]; omega
    · have := pcs_len b l (cur ++ [c]) w h
      rw [List.length_append, List.length_singleton] at this
      rw [List.length_cons]; omega
theorem occ1 (b : UInt8) (l : List UInt8) (i : Nat) : Go.Lib.occAt l [b] i = (l[i]? == some b) := by
  unfold Go.Lib.occAt
  by_cases h : i < l.length
  · rw [List.drop_eq_getElem_cons h, List.getElem?_eq_getElem h]
    simp only [List.isPrefixOf, Bool.and_true]
    rw [Bool.eq_iff_iff]
    simp only [beq_iff_eq, Option.some.injEq]
    exact eq_comm
  · rw [List.drop_eq_nil_of_le (by omega), List.getElem?_eq_none (by omega)]
    rfl
theorem idx_no (b : UInt8) (l : List UInt8) (h : b ∉ l) : Go.Lib.index l [b] = -1 := by
  refine Go.Lib.index_none (fun j _ => ?_)
  rw [occ1]
  by_cases hj : j < l.length
  · rw [List.getElem?_eq_getElem hj]
    have : l[j] ≠ b := fun e => h (by rw [← e]; exact List.getElem_mem _)
    simpa using this
  · rw [List.getElem?_eq_none (by omega)]; rfl
theorem idx_yes (b : UInt8) (a r : List UInt8) (h : b ∉ a) : Go.Lib.index (a ++ b :: r) [b] = (a.length : Int) := by
  refine Go.Lib.index_first (by simp) ?_ (fun j hj => ?_)
  · rw [occ1, List.getElem?_append_right (Nat.le_refl _), Nat.sub_self]
    simp
  · rw [occ1, List.getElem?_append_left hj, List.getElem?_eq_getElem hj]
    have : a[j] ≠ b := fun e => h (by rw [← e]; exact List.getElem_mem _)
    simpa using this
theorem split_pcs (b : UInt8) (n : Nat) : ∀ (l : List UInt8), l.length ≤ n → Go.Lib.split l [b] = pcs b [] l := by
  induction n with
  | zero =>
    intro l hl
    have : l = [] := List.eq_nil_of_length_eq_zero (by omega)
    subst this
    unfold Go.Lib.split
    rw [Go.Lib.count_miss (idx_no b [] (by simp))]
    rfl
  | succ n ih =>
    intro l hl
    by_cases h : b ∈ l
    · obtain ⟨a, r, rfl, ha⟩ := List.eq_append_cons_of_mem h
      have hi := idx_yes b a r ha
      have hd : (a ++ b :: r).drop (a.length + 1) = r := by rw [← List.drop_drop, List.drop_left]; rfl
      unfold Go.Lib.split
      rw [Go.Lib.count_hit (by simp) hi, List.length_singleton, hd, Nat.add_comm 1, Go.Lib.splitK, if_neg (by rw [hi]; simp), hi, Int.toNat_natCast, Nat.add_zero, List.take_left, List.length_singleton, hd]
      rw [pcs_app b a [] _ ha, List.nil_append, pcs, if_pos rfl]
      congr 1
      rw [List.length_append, List.length_cons] at hl
      exact ih r (by omega)
    · unfold Go.Lib.split
      rw [Go.Lib.count_miss (idx_no b l h)]
      have := pcs_app b l [] [] h
      rw [List.append_nil, List.nil_append] at this
      rw [this]
      rfl

/-! ReadDecimal, the program's and the reference's -/
def isNum (s : ByteArray) (v : Int) : Prop := -1000000000 ≤ v ∧ v ≤ 1000000000 ∧ Go.Lib.itoa v = s.data.toList
theorem impl_rd_yes (s : ByteArray) (v : Int) (h : isNum s v) : impl_ReadDecimal.out s = (v, true) := by
  unfold impl_ReadDecimal.out
  rw [← h.2.2, parse_itoa h.1 h.2.1]
  show (if (-1000000000 ≤ v ∧ v ≤ 1000000000) ∧ (⟨(Go.Lib.itoa v).toArray⟩ : ByteArray).toList = s.toList then (v, true) else (0, false)) = (v, true)
  rw [if_pos ⟨⟨h.1, h.2.1⟩, by rw [ByteArray.toList_eq, ByteArray.toList_eq, h.2.2]⟩]
theorem impl_rd_no (s : ByteArray) (h : ∀ v, ¬ isNum s v) : impl_ReadDecimal.out s = (0, false) := by
  unfold impl_ReadDecimal.out
  split
  · rename_i v e
    rw [if_neg]
    rintro ⟨⟨a, b⟩, c⟩
    rw [ByteArray.toList_eq, ByteArray.toList_eq] at c
    exact h v ⟨a, b, c⟩
  · rfl
theorem impl_rd (s : ByteArray) (hs : s.size ≤ 140737488351232) : impl_ReadDecimal.f s = some (impl_ReadDecimal.out s) := by unfold impl_ReadDecimal.f; rw [if_pos hs]

theorem impl_range (a b c : Int) : impl_inRange.f a b c = some (decide (b ≤ a) && decide (a ≤ c)) := by
  unfold impl_inRange.f
  by_cases h : b ≤ a
  · rw [if_pos h, decide_eq_true h, Bool.true_and]
  · rw [if_neg h, decide_eq_false h, Bool.false_and]

/-! ReadTrace, the program's -/
/-- The number of a word's accesses, and whether the word is one. -/
def cntW (w : List UInt8) : Int := if (Go.Lib.cut w [42]).2.2 = true then (impl_ReadDecimal.out (mkB (Go.Lib.cut w [42]).2.1)).1 else 1
def okW (w : List UInt8) : Bool := if (Go.Lib.cut w [42]).2.2 = true then (if (impl_ReadDecimal.out (mkB (Go.Lib.trimSuffix (Go.Lib.cut w [42]).1 [119]))).2 = true then (impl_ReadDecimal.out (mkB (Go.Lib.cut w [42]).2.1)).2 else false) else (impl_ReadDecimal.out (mkB (Go.Lib.trimSuffix (Go.Lib.cut w [42]).1 [119]))).2
def accW (w : List UInt8) : S45 := ⟨if Go.Lib.hasSuffix (Go.Lib.cut w [42]).1 [119] = true then 1 else 0, (impl_ReadDecimal.out (mkB (Go.Lib.trimSuffix (Go.Lib.cut w [42]).1 [119]))).1⟩
def rdT (s : ByteArray) : List S45 → List (List UInt8) → List S45 × Bool
  | acc, [] => if (textT acc).toList = s.toList then (acc, true) else ([], false)
  | acc, w :: ws => if okW w = true ∧ 1 ≤ cntW w ∧ cntW w ≤ 60 then (if traceOk (acc ++ List.replicate (cntW w).toNat (accW w)) = true then rdT s (acc ++ List.replicate (cntW w).toNat (accW w)) ws else ([], false)) else ([], false)
theorem cut_le (w : List UInt8) : (Go.Lib.cut w [42]).1.length ≤ w.length ∧ (Go.Lib.cut w [42]).2.1.length ≤ w.length := by
  unfold Go.Lib.cut
  split
  · refine ⟨?_, ?_⟩
    · show (w.take _).length ≤ _
      rw [List.length_take]; omega
    · show (w.drop _).length ≤ _
      rw [List.length_drop]; omega
  · exact ⟨Nat.le_refl _, Nat.zero_le _⟩
theorem rt_e0 (s : ByteArray) (W : List ByteArray) (acc : List S45) (i : Nat) (hi : i < W.length) (w : ByteArray) (hw : rdOf ByteArray.empty W (i : Int) = w) (hs : w.size ≤ 2000000) (k : Nat) :
    impl_ReadTrace.l0 (k + 1) s acc W (W.length : Int) (i : Int) = impl_ReadTrace.j1 k s acc (Go.Lib.hasSuffix (Go.Lib.cut w.data.toList [42]).1 [119]) (accW w.data.toList).f1 (okW w.data.toList) (cntW w.data.toList) W (W.length : Int) (i : Int) := by
  have c1 : strings_Cut.f w (⟨#[42]⟩ : ByteArray) = some (mkB (Go.Lib.cut w.data.toList [42]).1, mkB (Go.Lib.cut w.data.toList [42]).2.1, (Go.Lib.cut w.data.toList [42]).2.2) := by
    unfold strings_Cut.f
    rw [if_pos (by omega)]; rfl
  have hc := cut_le w.data.toList
  rw [← ba_size] at hc
  unfold okW cntW accW
  generalize Go.Lib.cut w.data.toList [42] = C at c1 hc ⊢
  obtain ⟨C1, C2, C3⟩ := C
  have hc : C1.length ≤ w.size ∧ C2.length ≤ w.size := hc
  have c2 : strings_CutSuffix.f (mkB C1) (⟨#[119]⟩ : ByteArray) = some (mkB (Go.Lib.trimSuffix C1 [119]), Go.Lib.hasSuffix C1 [119]) := by
    unfold strings_CutSuffix.f
    rw [if_pos (by rw [ba_size]; show C1.length ≤ _; have := hc.1; omega)]; rfl
  have c3 := Go.Lib.trimSuffix_le C1 [119]
  have r1 := impl_rd (mkB (Go.Lib.trimSuffix C1 [119])) (by rw [ba_size]; show (Go.Lib.trimSuffix C1 [119]).length ≤ _; have := hc.1; omega)
  have r2 := impl_rd (mkB C2) (by rw [ba_size]; show C2.length ≤ _; have := hc.2; omega)
  rw [impl_ReadTrace.l0, if_pos (by omega), if_pos (by omega), if_pos (by omega), hw, c1, Option.bind_some, c2, Option.bind_some, r1, Option.bind_some]
  show (if C3 = true then _ else _) = _
  generalize impl_ReadDecimal.out (mkB (Go.Lib.trimSuffix C1 [119])) = o1
  generalize impl_ReadDecimal.out (mkB C2) = o2 at r2
  by_cases h3 : C3 = true
  · rw [if_pos h3, r2, Option.bind_some]
    simp only [if_pos h3]
    by_cases h1 : o1.2 = true
    · rw [if_pos h1]; simp only [if_pos h1]
    · rw [if_neg h1]; simp only [if_neg h1]
  · rw [if_neg h3]
    simp only [if_neg h3]
theorem rt_one (s : ByteArray) (W : List ByteArray) (acc : List S45) (hacc : acc.length ≤ 60) (i : Nat) (hi : i < W.length) (hl : W.length ≤ 2000000) (w : ByteArray) (hw : rdOf ByteArray.empty W (i : Int) = w) (hs : w.size ≤ 2000000) {ws : List (List UInt8)}
    (ih : traceOk (acc ++ List.replicate (cntW w.data.toList).toNat (accW w.data.toList)) = true → Ev (fun k => impl_ReadTrace.l0 k s (acc ++ List.replicate (cntW w.data.toList).toNat (accW w.data.toList)) W (W.length : Int) ((i + 1 : Nat) : Int)) (rdT s (acc ++ List.replicate (cntW w.data.toList).toNat (accW w.data.toList)) ws)) :
    Ev (fun k => impl_ReadTrace.l0 k s acc W (W.length : Int) (i : Int)) (rdT s acc (w.data.toList :: ws)) := by
  have e2 : wrap64 ((i : Int) + 1) = ((i + 1 : Nat) : Int) := by rw [wid (by omega) (by omega)]; omega
  refine Ev.step (f := fun k => impl_ReadTrace.j1 k s acc (Go.Lib.hasSuffix (Go.Lib.cut w.data.toList [42]).1 [119]) (accW w.data.toList).f1 (okW w.data.toList) (cntW w.data.toList) W (W.length : Int) (i : Int)) (fun k => rt_e0 s W acc i hi w hw hs k) ?_
  rw [rdT]
  have hacc1 : (accW w.data.toList) = ⟨if Go.Lib.hasSuffix (Go.Lib.cut w.data.toList [42]).1 [119] = true then 1 else 0, (accW w.data.toList).f1⟩ := rfl
  generalize accW w.data.toList = x at *
  generalize cntW w.data.toList = c at *
  generalize okW w.data.toList = o at *
  generalize Go.Lib.hasSuffix (Go.Lib.cut w.data.toList [42]).1 [119] = hsx at *
  by_cases h1 : o = true
  case neg =>
    rw [if_neg (fun q => h1 q.1)]
    refine Ev.step (f := fun k => impl_ReadTrace.j2 k s acc hsx x.f1 c W (W.length : Int) (i : Int) true) (fun k => by rw [impl_ReadTrace.j1, if_neg h1]) ?_
    exact ev_ret (fun k => by rw [impl_ReadTrace.j2, if_pos rfl])
  by_cases h2 : 1 ≤ c ∧ c ≤ 60
  case neg =>
    rw [if_neg (fun q => h2 q.2)]
    refine Ev.step (f := fun k => impl_ReadTrace.j2 k s acc hsx x.f1 c W (W.length : Int) (i : Int) true) (fun k => ?_) ?_
    · rw [impl_ReadTrace.j1, if_pos h1, impl_range, Option.bind_some]
      have : (decide (1 ≤ c) && decide (c ≤ 60)) = false := by
        rw [Bool.and_eq_false_iff, decide_eq_false_iff_not, decide_eq_false_iff_not]; omega
      rw [this]; rfl
    · exact ev_ret (fun k => by rw [impl_ReadTrace.j2, if_pos rfl])
  rw [if_pos ⟨h1, h2⟩]
  obtain ⟨h3, h4⟩ := h2
  refine Ev.step (f := fun k => impl_ReadTrace.j2 k s acc hsx x.f1 c W (W.length : Int) (i : Int) false) (fun k => ?_) ?_
  · rw [impl_ReadTrace.j1, if_pos h1, impl_range, decide_eq_true h3, decide_eq_true h4, Option.bind_some]; rfl
  refine Ev.step (f := fun k => impl_ReadTrace.j3 k s acc c W (W.length : Int) (i : Int) x.f0 x.f1) (fun k => ?_) ?_
  · rw [impl_ReadTrace.j2, if_neg (by decide)]
    have hx0 : x.f0 = if hsx = true then 1 else 0 := by rw [hacc1]
    rw [hx0]
    by_cases hh : hsx = true
    · rw [if_pos hh, if_pos hh]
    · rw [if_neg hh, if_neg hh]
  have er : impl_Access_64.f ([(⟨x.f0, x.f1⟩ : S45)] : List (S45)) c = some (List.replicate c.toNat x) := by
    unfold impl_Access_64.f
    rw [if_pos ⟨rfl, h3, by omega⟩]; rfl
  have hlen : acc.length + (List.replicate c.toNat x).length < 8796093022208 := by rw [List.length_replicate]; omega
  by_cases h5 : traceOk (acc ++ List.replicate c.toNat x) = true
  · rw [if_pos h5]
    refine Ev.step (fun k => ?_) (ih h5)
    rw [impl_ReadTrace.j3, er, Option.bind_some, if_pos hlen, Option.bind_some, impl_trace, Option.bind_some, if_pos h5, e2]
  · rw [if_neg h5]
    exact ev_ret (fun k => by rw [impl_ReadTrace.j3, er, Option.bind_some, if_pos hlen, Option.bind_some, impl_trace, Option.bind_some, if_neg h5])
theorem impl_rt_l0 (s : ByteArray) (W : List ByteArray) (hW : ∀ w ∈ W, w.size ≤ 2000000) (hl : W.length ≤ 2000000) (d : Nat) : ∀ (i : Nat) (acc : List S45), W.length - i = d → i ≤ W.length → traceOk acc = true →
    Ev (fun k => impl_ReadTrace.l0 k s acc W (W.length : Int) (i : Int)) (rdT s acc ((W.drop i).map (fun w : ByteArray => w.data.toList))) := by
  induction d with
  | zero =>
    intro i acc hd hi ha
    rw [List.drop_eq_nil_of_le (by omega), List.map_nil, rdT]
    refine Ev.step (f := fun k => (impl_traceText.f k acc).bind fun t132 => (if t132.toList = s.toList then (some (acc, true)) else (some (([] : List S45), false)))) (fun k => by rw [impl_ReadTrace.l0, if_neg (by omega)]) ?_
    refine Ev.bind (impl_textT acc ha) (ev_all fun k => ?_)
    by_cases h : (textT acc).toList = s.toList
    · rw [if_pos h, if_pos h]
    · rw [if_neg h, if_neg h]
  | succ d ih =>
    intro i acc hd hi ha
    have hi2 : i < W.length := by omega
    have hr : rdOf ByteArray.empty W (i : Int) = W[i] := by unfold rdOf; rw [Int.toNat_natCast, List.getD_eq_getElem?_getD, List.getElem?_eq_getElem hi2]; rfl
    rw [List.drop_eq_getElem_cons hi2, List.map_cons]
    exact rt_one s W acc (traceOk_len ha) i hi2 hl W[i] hr (hW _ (List.getElem_mem hi2)) (fun h => ih (i + 1) _ (by omega) (by omega) h)
def RT (s : ByteArray) : List S45 × Bool := if s.toList = [] then ([], true) else rdT s [] (pcs 32 [] s.data.toList)
theorem split_is3 (s : ByteArray) : (Go.Lib.splitB (⟨#[32]⟩ : ByteArray) 0 (Go.Lib.countB s (⟨#[32]⟩ : ByteArray)) s).map (fun w : ByteArray => w.data.toList) = pcs 32 [] s.data.toList := by
  rw [Go.Lib.splitB_data]
  exact split_pcs 32 s.data.toList.length _ (Nat.le_refl _)
theorem impl_rt (s : ByteArray) (hs : s.size ≤ 1048576) : Ev (fun k => impl_ReadTrace.f k s) (RT s) := by
  unfold impl_ReadTrace.f RT
  simp only [Option.bind_some]
  by_cases h : s.toList = []
  · simp only [if_pos h]; exact Ev.now _
  · simp only [if_neg h]
    have hsp : strings_Split.f s (⟨#[32]⟩ : ByteArray) = some (Go.Lib.splitB (⟨#[32]⟩ : ByteArray) 0 (Go.Lib.countB s (⟨#[32]⟩ : ByteArray)) s) := by
      unfold strings_Split.f
      rw [if_pos ⟨by omega, by show 1 ≤ 1; omega⟩]
    rw [hsp]
    have hp := split_is3 s
    have hle := Go.Lib.splitB_length_le (⟨#[32]⟩ : ByteArray) 0 (Go.Lib.countB s (⟨#[32]⟩ : ByteArray)) s
    have hcl := Go.Lib.count_le s.data.toList [32]
    have hc2 : Go.Lib.countB s (⟨#[32]⟩ : ByteArray) ≤ s.data.toList.length + 1 := hcl
    rw [← ba_size] at hc2
    generalize Go.Lib.splitB (⟨#[32]⟩ : ByteArray) 0 (Go.Lib.countB s (⟨#[32]⟩ : ByteArray)) s = W at *
    have hW : ∀ w ∈ W, w.size ≤ 2000000 := by
      intro w hw
      have h1 : w.data.toList ∈ pcs 32 [] s.data.toList := by rw [← hp]; exact List.mem_map.2 ⟨w, hw, rfl⟩
      have h2 := pcs_len 32 _ _ _ h1
      rw [← ba_size, ← ba_size, List.length_nil] at h2
      omega
    have h0 := impl_rt_l0 s W hW (by omega) W.length 0 [] (by omega) (by omega) rfl
    rw [List.drop_zero, hp] at h0
    exact Ev.bind (Ev.now W) h0
theorem rdT_sound (s : ByteArray) : ∀ (ws : List (List UInt8)) (acc : List S45), traceOk acc = true → rdT s acc ws = ([], false) ∨ ∃ t, rdT s acc ws = (t, true) ∧ traceOk t = true ∧ (textT t).toList = s.toList
  | [], acc, h => by
    rw [rdT]
    by_cases g : (textT acc).toList = s.toList
    · rw [if_pos g]; exact .inr ⟨acc, rfl, h, g⟩
    · rw [if_neg g]; exact .inl rfl
  | w :: ws, acc, h => by
    rw [rdT]
    split
    · split
      · rename_i g; exact rdT_sound s ws _ g
      · exact .inl rfl
    · exact .inl rfl
theorem RT_sound (s : ByteArray) : RT s = ([], false) ∨ ∃ t, RT s = (t, true) ∧ traceOk t = true ∧ (textT t).toList = s.toList := by
  unfold RT
  by_cases h : s.toList = []
  · rw [if_pos h]; exact .inr ⟨[], rfl, rfl, by rw [h, ByteArray.toList_eq]; rfl⟩
  · rw [if_neg h]; exact rdT_sound s _ [] rfl
/-! a trace's words are read back -/
theorem itoa_no (n : Int) (c : UInt8) (h1 : c.toNat ≠ 45) (h2 : c.toNat < 48 ∨ 57 < c.toNat) : c ∉ Go.Lib.itoa n := by
  intro hc
  have hd : c.toNat = 45 ∨ (48 ≤ c.toNat ∧ c.toNat ≤ 57) := by
    unfold Go.Lib.itoa at hc
    split at hc
    · rcases List.mem_cons.1 hc with rfl | hc
      · exact .inl rfl
      · exact .inr (dd_dig _ c hc)
    · exact .inr (dd_dig _ c hc)
  omega
theorem no42 (n : Int) : (42 : UInt8) ∉ Go.Lib.itoa n := itoa_no n 42 (by decide) (by decide)
theorem no32 (n : Int) : (32 : UInt8) ∉ Go.Lib.itoa n := itoa_no n 32 (by decide) (by decide)
theorem no119 (n : Int) : (119 : UInt8) ∉ Go.Lib.itoa n := itoa_no n 119 (by decide) (by decide)
theorem out_itoa (n : Int) (h1 : -1000000000 ≤ n) (h2 : n ≤ 1000000000) : impl_ReadDecimal.out (mkB (Go.Lib.itoa n)) = (n, true) := impl_rd_yes _ n ⟨h1, h2, rfl⟩
theorem cut_yes (P r : List UInt8) (h : (42 : UInt8) ∉ P) : Go.Lib.cut (P ++ 42 :: r) [42] = (P, r, true) := by
  unfold Go.Lib.cut
  rw [idx_yes 42 P r h, if_pos (by omega), Int.toNat_natCast]
  simp
theorem cut_no (P : List UInt8) (h : (42 : UInt8) ∉ P) : Go.Lib.cut P [42] = (P, [], false) := by
  unfold Go.Lib.cut
  rw [idx_no 42 P h, if_neg (by omega)]
def preW (x : S45) : List UInt8 := Go.Lib.itoa x.f1 ++ (if x.f0 = 1 then [119] else [])
theorem pre42 (x : S45) : (42 : UInt8) ∉ preW x := by
  unfold preW
  intro h
  rcases List.mem_append.1 h with h | h
  · exact no42 _ h
  · split at h
    · exact absurd h (by decide)
    · exact absurd h (by simp)
theorem cutW (x : S45) (m : Nat) : Go.Lib.cut (wordL x m) [42] = (preW x, if 1 < m then Go.Lib.itoa (m : Int) else [], decide (1 < m)) := by
  unfold wordL
  by_cases h : 1 < m
  · rw [if_pos h, if_pos h, decide_eq_true h]; exact cut_yes (preW x) _ (pre42 x)
  · rw [if_neg h, if_neg h, decide_eq_false h, List.append_nil]; exact cut_no (preW x) (pre42 x)
theorem sufW (x : S45) : Go.Lib.hasSuffix (preW x) [119] = decide (x.f0 = 1) ∧ Go.Lib.trimSuffix (preW x) [119] = Go.Lib.itoa x.f1 := by
  by_cases h : x.f0 = 1
  · have e : preW x = Go.Lib.itoa x.f1 ++ [119] := by unfold preW; rw [if_pos h]
    have hs : Go.Lib.hasSuffix (preW x) [119] = true := by
      unfold Go.Lib.hasSuffix
      rw [List.isSuffixOf_iff_suffix, e]
      exact List.suffix_append _ _
    refine ⟨by rw [hs, decide_eq_true h], ?_⟩
    unfold Go.Lib.trimSuffix
    rw [if_pos hs, e]
    simp
  · have e : preW x = Go.Lib.itoa x.f1 := by unfold preW; rw [if_neg h, List.append_nil]
    have hs : Go.Lib.hasSuffix (preW x) [119] = false := by
      rw [Bool.eq_false_iff]
      intro hh
      unfold Go.Lib.hasSuffix at hh
      rw [List.isSuffixOf_iff_suffix, e] at hh
      exact no119 _ (hh.subset (List.mem_cons_self ..))
    refine ⟨by rw [hs, decide_eq_false h], ?_⟩
    unfold Go.Lib.trimSuffix
    rw [hs, if_neg (by decide), e]
theorem word_back (x : S45) (m : Nat) (hx : 0 ≤ x.f0 ∧ x.f0 ≤ 1 ∧ 0 ≤ x.f1 ∧ x.f1 ≤ 63) (h1 : 1 ≤ m) (h2 : m ≤ 60) : okW (wordL x m) = true ∧ cntW (wordL x m) = (m : Int) ∧ accW (wordL x m) = x := by
  obtain ⟨s1, s2⟩ := sufW x
  have o1 := out_itoa x.f1 (by omega) (by omega)
  have o2 := out_itoa (m : Int) (by omega) (by omega)
  have hacc : accW (wordL x m) = x := by
    unfold accW
    rw [cutW]
    show (⟨if Go.Lib.hasSuffix (preW x) [119] = true then 1 else 0, (impl_ReadDecimal.out (mkB (Go.Lib.trimSuffix (preW x) [119]))).1⟩ : S45) = x
    rw [s1, s2, o1]
    by_cases h : x.f0 = 1
    · rw [decide_eq_true h, if_pos rfl]
      show (⟨1, x.f1⟩ : S45) = x
      rw [← h]
    · rw [decide_eq_false h, if_neg (by decide)]
      show (⟨0, x.f1⟩ : S45) = x
      rw [← show x.f0 = 0 by omega]
  refine ⟨?_, ?_, hacc⟩
  · unfold okW
    rw [cutW]
    show (if decide (1 < m) = true then (if (impl_ReadDecimal.out (mkB (Go.Lib.trimSuffix (preW x) [119]))).2 = true then (impl_ReadDecimal.out (mkB (if 1 < m then Go.Lib.itoa (m : Int) else []))).2 else false) else (impl_ReadDecimal.out (mkB (Go.Lib.trimSuffix (preW x) [119]))).2) = true
    rw [s2, o1]
    by_cases h : 1 < m
    · rw [if_pos h, o2, if_pos (decide_eq_true h), if_pos rfl]
    · rw [if_neg (by rw [decide_eq_false h]; decide)]
  · unfold cntW
    rw [cutW]
    show (if decide (1 < m) = true then (impl_ReadDecimal.out (mkB (if 1 < m then Go.Lib.itoa (m : Int) else []))).1 else 1) = _
    by_cases h : 1 < m
    · rw [if_pos h, o2, if_pos (decide_eq_true h)]
    · rw [if_neg (by rw [decide_eq_false h]; decide)]; omega
theorem same_rep (x : S45) : ∀ l : List S45, List.replicate (same x l) x ++ l.drop (same x l) = l
  | [] => rfl
  | y :: l => by
    rw [same]
    by_cases c : ((y.f0 == x.f0) && (y.f1 == x.f1)) = true
    · rw [if_pos c, List.replicate_succ, List.drop_succ_cons, List.cons_append, same_rep x l]
      rw [Bool.and_eq_true, beq_iff_eq, beq_iff_eq] at c
      have : y = x := by
        cases x; cases y
        simp only at c
        rw [c.1, c.2]
      rw [this]
    · rw [if_neg c]; rfl
theorem traceOk_app {a b : List S45} (h : traceOk (a ++ b) = true) : traceOk a = true := by
  unfold traceOk at h ⊢
  rw [Bool.and_eq_true, decide_eq_true_eq, List.all_append, Bool.and_eq_true, List.length_append] at h
  rw [Bool.and_eq_true, decide_eq_true_eq]
  exact ⟨by omega, h.2.1⟩
theorem rdT_words (s : ByteArray) (t : List S45) (ht : traceOk t = true) (hs : (textT t).toList = s.toList) : ∀ (n : Nat) (acc l : List S45), acc ++ l = t → l.length ≤ n → rdT s acc (wds n l) = (t, true)
  | 0, acc, l, e, hl => by
    have : l = [] := List.eq_nil_of_length_eq_zero (by omega)
    subst this
    rw [List.append_nil] at e
    rw [wds, rdT, e, if_pos hs]
  | n + 1, acc, [], e, hl => by
    rw [List.append_nil] at e
    rw [wds, rdT, e, if_pos hs]
  | n + 1, acc, x :: l, e, hl => by
    rw [wds, rdT]
    rw [List.length_cons] at hl
    have hlt := traceOk_len ht
    have hsl := same_le x l
    have hll : acc.length + (l.length + 1) ≤ 60 := by rw [← e, List.length_append, List.length_cons] at hlt; exact hlt
    obtain ⟨w1, w2, w3⟩ := word_back x (same x l + 1) (traceOk_mem ht (by rw [← e]; exact List.mem_append_right _ (List.mem_cons_self ..))) (by omega) (by omega)
    have er : List.replicate (same x l + 1) x ++ l.drop (same x l) = x :: l := by rw [List.replicate_succ, List.cons_append, same_rep]
    have e2 : (acc ++ List.replicate (same x l + 1) x) ++ l.drop (same x l) = t := by rw [List.append_assoc, er, e]
    rw [w1, w2, w3, Int.toNat_natCast, if_pos ⟨rfl, by omega, by omega⟩, if_pos (traceOk_app (b := l.drop (same x l)) (by rw [e2]; exact ht))]
    exact rdT_words s t ht hs n _ _ e2 (by rw [List.length_drop]; omega)
theorem pcs_tail3 (b : UInt8) : ∀ (r : List (List UInt8)) (cur : List UInt8), (∀ w ∈ r, b ∉ w) → pcs b cur (Go.Lib.joinTail [b] r) = cur :: r
  | [], cur, _ => rfl
  | w :: r, cur, h => by
    have e : Go.Lib.joinTail [b] (w :: r) = b :: (w ++ Go.Lib.joinTail [b] r) := by unfold Go.Lib.joinTail; simp
    rw [e, pcs, if_pos rfl, pcs_app b w [] _ (h w (List.mem_cons_self ..)), List.nil_append, pcs_tail3 b r w (fun x hx => h x (List.mem_cons_of_mem _ hx))]
theorem word32 (x : S45) (m : Nat) : (32 : UInt8) ∉ wordL x m := by
  unfold wordL
  intro h
  rcases List.mem_append.1 h with h | h
  · rcases List.mem_append.1 h with h | h
    · exact no32 _ h
    · split at h
      · exact absurd h (by decide)
      · exact absurd h (by simp)
  · split at h
    · rcases List.mem_cons.1 h with h | h
      · exact absurd h (by decide)
      · exact no32 _ h
    · exact absurd h (by simp)
theorem wds32 : ∀ (n : Nat) (l : List S45), ∀ w ∈ wds n l, (32 : UInt8) ∉ w
  | 0, _, w, hw => by rw [wds] at hw; cases hw
  | n + 1, [], w, hw => by rw [wds] at hw; cases hw
  | n + 1, x :: l, w, hw => by
    rw [wds] at hw
    rcases List.mem_cons.1 hw with rfl | hw
    · exact word32 _ _
    · exact wds32 n _ w hw
theorem word_ne (x : S45) (m : Nat) : wordL x m ≠ [] := by
  unfold wordL
  intro h
  rw [List.append_eq_nil_iff, List.append_eq_nil_iff] at h
  exact itoa_ne _ h.1.1
theorem RT_text (s : ByteArray) (t : List S45) (ht : traceOk t = true) (hs : (textT t).toList = s.toList) : RT s = (t, true) := by
  cases t with
  | nil =>
    unfold RT
    have e0 : (textT ([] : List S45)).toList = [] := by rw [ByteArray.toList_eq]; rfl
    rw [e0] at hs
    rw [if_pos hs.symm]
  | cons x l =>
    have hd : s.data.toList = Go.Lib.join (wds (l.length + 1) (x :: l)) [32] := by
      rw [ByteArray.toList_eq, ByteArray.toList_eq] at hs
      rw [← hs]; rfl
    have hp : pcs 32 [] s.data.toList = wds (l.length + 1) (x :: l) := by
      rw [hd]
      have h32 := wds32 (l.length + 1) (x :: l)
      rw [wds] at h32 ⊢
      rw [Go.Lib.join_cons, pcs_app 32 _ [] _ (h32 _ (List.mem_cons_self ..)), List.nil_append, pcs_tail3 32 _ _ (fun w hw => h32 w (List.mem_cons_of_mem _ hw))]
    have hne : s.toList ≠ [] := by
      rw [ByteArray.toList_eq, hd, wds]
      exact join_ne _ _ _ (word_ne _ _)
    unfold RT
    rw [if_neg hne, hp]
    exact rdT_words s (x :: l) ht hs (l.length + 1) [] (x :: l) rfl (by simp)

/-! the reference's numeral -/
theorem dec_l0 (n : Int) (hn : -9223372036854775808 ≤ n ∧ n ≤ 9223372036854775807) (hz : n ≠ 0) (u : Nat) : ∀ (o : ByteArray) (rest : Int), rest.natAbs = u → -9223372036854775808 ≤ rest ∧ rest ≤ 9223372036854775807 → u < 10 ^ (20 - o.size) → o.size ≤ 20 → (rest = 0 ∨ (n < 0 ↔ rest < 0)) →
    Ev (fun k => spec_l01Dec.l0 k n o rest) ⟨((if n < 0 then [45] else []) ++ (if u = 0 then [] else Go.Lib.decDigits u) ++ o.data.toList).toArray⟩ := by
  induction u using Nat.strongRecOn with
  | _ u ih =>
    intro o rest hu hr hpow ho2 hs
    by_cases c : rest = 0
    · subst c
      have hu0 : u = 0 := by simpa using hu.symm
      subst hu0
      refine ev_ret (fun k => ?_)
      rw [spec_l01Dec.l0, if_pos rfl, if_neg hz]
      by_cases g : n < 0
      · rw [if_pos g, if_pos (by omega), if_pos g]
        exact congrArg some (ba_ext (by rw [ba_app]; simp))
      · rw [if_neg g, if_neg g]
        exact congrArg some (ba_ext (by simp))
    · have hs2 : n < 0 ↔ rest < 0 := by rcases hs with h | h; exact absurd h c; exact h
      have hm := Int.mul_tdiv_add_tmod rest 10
      have hd : (Int.tdiv rest 10).natAbs = u / 10 := by rw [Int.natAbs_tdiv, hu]; rfl
      have hdig : (if Int.tmod rest 10 < 0 then -(Int.tmod rest 10) else Int.tmod rest 10) = ((u % 10 : Nat) : Int) := by
        have e : (Int.tmod rest 10).natAbs = u % 10 := by rw [Int.natAbs_tmod, hu]; rfl
        split <;> omega
      have hu1 : u ≠ 0 := by omega
      have hsg : Int.tdiv rest 10 = 0 ∨ (n < 0 ↔ Int.tdiv rest 10 < 0) := by
        by_cases z : Int.tdiv rest 10 = 0
        · exact Or.inl z
        · refine Or.inr ?_
          have := Int.tmod_lt_of_pos rest (show (0 : Int) < 10 by decide)
          have := Int.lt_tmod_of_pos rest (show (0 : Int) < 10 by decide)
          omega
      have hbd : -9223372036854775808 ≤ Int.tdiv rest 10 ∧ Int.tdiv rest 10 ≤ 9223372036854775807 := by omega
      have hsz : ((⟨#[UInt8.ofNat (48 + u % 10)]⟩ : ByteArray) ++ o).size = o.size + 1 := by rw [ByteArray.size_append]; show 1 + o.size = _; omega
      have hp2 : o.size < 20 := by
        by_cases q : o.size < 20
        · exact q
        · have : o.size = 20 := by omega
          rw [this] at hpow
          omega
      have hpow2 : u / 10 < 10 ^ (20 - (o.size + 1)) := by
        have e : 20 - o.size = (20 - (o.size + 1)) + 1 := by omega
        rw [e, Nat.pow_succ] at hpow
        omega
      have hx := ih (u / 10) (by omega) ((⟨#[UInt8.ofNat (48 + u % 10)]⟩ : ByteArray) ++ o) (Int.tdiv rest 10) hd hbd (by rw [hsz]; exact hpow2) (by rw [hsz]; omega) hsg
      have er : (if n < 0 then ([45] : List UInt8) else []) ++ (if u / 10 = 0 then [] else Go.Lib.decDigits (u / 10)) ++ ((⟨#[UInt8.ofNat (48 + u % 10)]⟩ : ByteArray) ++ o).data.toList = (if n < 0 then [45] else []) ++ (if u = 0 then [] else Go.Lib.decDigits u) ++ o.data.toList := by
        rw [ba_app, if_neg hu1]
        by_cases s : u < 10
        · rw [if_pos (show u / 10 = 0 by omega), Go.Lib.decDigits_one s, show u % 10 = u by omega]
          simp
        · rw [if_neg (show ¬ u / 10 = 0 by omega), dd_big s]
          simp
      rw [er] at hx
      refine Ev.step (fun k => ?_) hx
      rw [spec_l01Dec.l0, if_neg c]
      have hw : wrap64 (Int.tdiv rest 10) = Int.tdiv rest 10 := wid hbd.1 (by omega)
      have ht := Int.tmod_lt_of_pos rest (show (0 : Int) < 10 by decide)
      have ht2 := Int.lt_tmod_of_pos rest (show (0 : Int) < 10 by decide)
      have hg : ∀ x : Int, x = ((u % 10 : Nat) : Int) → strOfNums [(wrap64 (48 + x)) % 256] = ⟨#[UInt8.ofNat (48 + u % 10)]⟩ := by
        intro x hx
        have e : ((wrap64 (48 + x)) % 256).toNat = 48 + u % 10 := by rw [wid (by omega) (by omega)]; omega
        rw [str1, e]
      by_cases g : Int.tmod rest 10 < 0
      · rw [if_pos g] at hdig
        rw [if_pos g, Option.bind_some, wid (x := -(Int.tmod rest 10)) (by omega) (by omega), hg _ hdig, if_pos (by show 1 + o.size ≤ _; omega), hw]
      · rw [if_neg g] at hdig
        rw [if_neg g, Option.bind_some, hg _ hdig, if_pos (by show 1 + o.size ≤ _; omega), hw]
theorem dec_is (n : Int) (h0 : -9223372036854775808 ≤ n) (h1 : n ≤ 9223372036854775807) : Ev (fun k => spec_l01Dec.f k n) ⟨(Go.Lib.itoa n).toArray⟩ := by
  by_cases hz : n = 0
  · subst hz
    refine ev_ret (fun k => ?_)
    unfold spec_l01Dec.f
    rw [spec_l01Dec.l0, if_pos rfl, if_pos rfl]
    have : Go.Lib.itoa 0 = [48] := by unfold Go.Lib.itoa; rw [if_neg (by decide)]; exact Go.Lib.decDigits_one (by decide)
    rw [this]
  · have hx := dec_l0 n ⟨h0, h1⟩ hz n.natAbs ⟨#[]⟩ n rfl ⟨h0, h1⟩ (by show n.natAbs < 10 ^ 20; omega) (by show 0 ≤ 20; omega) (Or.inr Iff.rfl)
    have e : ((if n < 0 then ([45] : List UInt8) else []) ++ (if n.natAbs = 0 then [] else Go.Lib.decDigits n.natAbs) ++ (⟨#[]⟩ : ByteArray).data.toList) = Go.Lib.itoa n := by
      unfold Go.Lib.itoa
      rw [if_neg (show ¬ n.natAbs = 0 by omega)]
      by_cases g : n < 0
      · rw [if_pos g, if_pos g]; simp
      · rw [if_neg g, if_neg g, show n.natAbs = n.toNat by omega]; simp
    rw [e] at hx
    exact hx

/-! the reference's text of a trace -/
theorem ts_l1 (t : List S45) (ht : t.length ≤ 60) (O : ByteArray) (i : Nat) (hi : i < t.length) {r : ByteArray} : ∀ (l : List S45) (j : Nat), t.drop j = l → j ≤ t.length → Ev (fun k => spec_l02Text.j2 k t O (i : Int) ((j + same (t.getD i z45) l : Nat) : Int)) r → Ev (fun k => spec_l02Text.l1 k t O (i : Int) (j : Int)) r
  | [], j, hd, hj, h => by
    have : j = t.length := by
      have := congrArg List.length hd
      rw [List.length_drop, List.length_nil] at this
      omega
    rw [same, Nat.add_zero] at h
    exact Ev.step (fun k => by rw [spec_l02Text.l1, if_neg (by omega)]) h
  | y :: l, j, hd, hj, h => by
    have hl : j < t.length := by
      have := congrArg List.length hd
      rw [List.length_drop, List.length_cons] at this
      omega
    rw [gdrop z45 t j hl] at hd
    injection hd with h1 h2
    have e2 : wrap64 ((j : Int) + 1) = ((j + 1 : Nat) : Int) := by rw [wid (by omega) (by omega)]; omega
    rw [same] at h
    by_cases c : ((y.f0 == (t.getD i z45).f0) && (y.f1 == (t.getD i z45).f1)) = true
    · rw [if_pos c, show j + (same (t.getD i z45) l + 1) = (j + 1) + same (t.getD i z45) l by omega] at h
      refine Ev.step (fun k => ?_) (ts_l1 t ht O i hi l (j + 1) h2 (by omega) h)
      rw [spec_l02Text.l1, if_pos (by omega), if_pos (by omega), if_pos (by omega), if_pos (by omega), rdA, rdA, h1, if_pos c, e2]
    · rw [if_neg c, Nat.add_zero] at h
      refine Ev.step (fun k => ?_) h
      rw [spec_l02Text.l1, if_pos (by omega), if_pos (by omega), if_pos (by omega), if_pos (by omega), rdA, rdA, h1, if_neg c]
theorem ts_j3 (t : List S45) (ht : t.length ≤ 60) (O : ByteArray) (i j : Nat) (hi : i < t.length) (hj : i < j) (hj2 : j ≤ 60) (hO : O.size ≤ 10000) (x : S45) (hx : t.getD i z45 = x) (hb : 0 ≤ x.f1 ∧ x.f1 ≤ 63) {r : ByteArray} (h : Ev (fun k => spec_l02Text.l0 k t (O ++ mkB (wordL x (j - i))) (j : Int)) r) :
    Ev (fun k => spec_l02Text.j3 k t O (i : Int) (j : Int)) r := by
  have hw : wrap64 ((j : Int) - (i : Int)) = ((j - i : Nat) : Int) := by rw [wid (by omega) (by omega)]; omega
  have s1 : (decT x.f1).size ≤ 11 := by rw [ba_size]; exact itoa_len (n := x.f1) (by omega) (by omega)
  have s2 : (decT ((j - i : Nat) : Int)).size ≤ 11 := by rw [ba_size]; exact itoa_len (n := ((j - i : Nat) : Int)) (by omega) (by omega)
  have d1 := dec_is x.f1 (by omega) (by omega)
  have d2 := dec_is ((j - i : Nat) : Int) (by omega) (by omega)
  have z1 : (O ++ decT x.f1).size = O.size + (decT x.f1).size := ByteArray.size_append
  have z2 : ((O ++ decT x.f1) ++ (⟨#[119]⟩ : ByteArray)).size = O.size + (decT x.f1).size + 1 := by rw [ByteArray.size_append, z1]; rfl
  have z3 : ((⟨#[42]⟩ : ByteArray) ++ decT ((j - i : Nat) : Int)).size = 1 + (decT ((j - i : Nat) : Int)).size := ByteArray.size_append
  have g1 : (0 : Int) ≤ (i : Int) := by omega
  have g2 : (i : Int) < (t.length : Int) := by omega
  by_cases c : x.f0 = 1
  · by_cases m : ((j - i : Nat) : Int) > 1
    · have e : ((O ++ decT x.f1) ++ (⟨#[119]⟩ : ByteArray)) ++ ((⟨#[42]⟩ : ByteArray) ++ decT ((j - i : Nat) : Int)) = O ++ mkB (wordL x (j - i)) := by
        apply ba_ext
        rw [ba_app, ba_app, ba_app, ba_app, ba_app]
        unfold wordL
        rw [if_pos c, if_pos (show 1 < j - i by omega)]
        show _ = O.data.toList ++ (Go.Lib.itoa x.f1 ++ [119] ++ (42 :: Go.Lib.itoa ((j - i : Nat) : Int)))
        show O.data.toList ++ Go.Lib.itoa x.f1 ++ [119] ++ ([42] ++ Go.Lib.itoa ((j - i : Nat) : Int)) = _
        simp
      rw [← e] at h
      refine Ev.step (f := fun k => (spec_l01Dec.f k x.f1).bind fun t147 => (if O.size + t147.size ≤ 9223372036854775807 then (if (O ++ t147).size + 1 ≤ 9223372036854775807 then ((spec_l01Dec.f k ((j - i : Nat) : Int)).bind fun t149 => (if 1 + t149.size ≤ 9223372036854775807 then (if ((O ++ t147) ++ (⟨#[119]⟩ : ByteArray)).size + ((⟨#[42]⟩ : ByteArray) ++ t149).size ≤ 9223372036854775807 then (spec_l02Text.l0 k t (((O ++ t147) ++ (⟨#[119]⟩ : ByteArray)) ++ ((⟨#[42]⟩ : ByteArray) ++ t149)) (j : Int)) else none) else none)) else none) else none)) (fun k => ?_) (Ev.bind (a := decT x.f1) d1 ?_)
      · rw [spec_l02Text.j3, if_pos g1, if_pos g2, rdA, hx, hw]
        simp only [if_pos c, if_pos m]
      · simp only [if_pos (show O.size + (decT x.f1).size ≤ 9223372036854775807 by omega), if_pos (show (O ++ decT x.f1).size + 1 ≤ 9223372036854775807 by omega)]
        refine Ev.bind (a := decT ((j - i : Nat) : Int)) d2 ?_
        simp only [if_pos (show 1 + (decT ((j - i : Nat) : Int)).size ≤ 9223372036854775807 by omega), if_pos (show ((O ++ decT x.f1) ++ (⟨#[119]⟩ : ByteArray)).size + ((⟨#[42]⟩ : ByteArray) ++ decT ((j - i : Nat) : Int)).size ≤ 9223372036854775807 by omega)]
        exact h
    · have e : (O ++ decT x.f1) ++ (⟨#[119]⟩ : ByteArray) = O ++ mkB (wordL x (j - i)) := by
        apply ba_ext
        rw [ba_app, ba_app, ba_app]
        unfold wordL
        rw [if_pos c, if_neg (show ¬ 1 < j - i by omega), List.append_nil]
        show O.data.toList ++ Go.Lib.itoa x.f1 ++ [119] = O.data.toList ++ (Go.Lib.itoa x.f1 ++ [119])
        simp
      rw [← e] at h
      refine Ev.step (f := fun k => (spec_l01Dec.f k x.f1).bind fun t147 => (if O.size + t147.size ≤ 9223372036854775807 then (if (O ++ t147).size + 1 ≤ 9223372036854775807 then (spec_l02Text.l0 k t ((O ++ t147) ++ (⟨#[119]⟩ : ByteArray)) (j : Int)) else none) else none)) (fun k => ?_) (Ev.bind (a := decT x.f1) d1 ?_)
      · rw [spec_l02Text.j3, if_pos g1, if_pos g2, rdA, hx, hw]
        simp only [if_pos c, if_neg m]
      · simp only [if_pos (show O.size + (decT x.f1).size ≤ 9223372036854775807 by omega), if_pos (show (O ++ decT x.f1).size + 1 ≤ 9223372036854775807 by omega)]
        exact h
  · by_cases m : ((j - i : Nat) : Int) > 1
    · have e : (O ++ decT x.f1) ++ ((⟨#[42]⟩ : ByteArray) ++ decT ((j - i : Nat) : Int)) = O ++ mkB (wordL x (j - i)) := by
        apply ba_ext
        rw [ba_app, ba_app, ba_app, ba_app]
        unfold wordL
        rw [if_neg c, if_pos (show 1 < j - i by omega), List.append_nil]
        show O.data.toList ++ Go.Lib.itoa x.f1 ++ ([42] ++ Go.Lib.itoa ((j - i : Nat) : Int)) = O.data.toList ++ (Go.Lib.itoa x.f1 ++ (42 :: Go.Lib.itoa ((j - i : Nat) : Int)))
        simp
      rw [← e] at h
      refine Ev.step (f := fun k => (spec_l01Dec.f k x.f1).bind fun t147 => (if O.size + t147.size ≤ 9223372036854775807 then ((spec_l01Dec.f k ((j - i : Nat) : Int)).bind fun t150 => (if 1 + t150.size ≤ 9223372036854775807 then (if (O ++ t147).size + ((⟨#[42]⟩ : ByteArray) ++ t150).size ≤ 9223372036854775807 then (spec_l02Text.l0 k t ((O ++ t147) ++ ((⟨#[42]⟩ : ByteArray) ++ t150)) (j : Int)) else none) else none)) else none)) (fun k => ?_) (Ev.bind (a := decT x.f1) d1 ?_)
      · rw [spec_l02Text.j3, if_pos g1, if_pos g2, rdA, hx, hw]
        simp only [if_neg c, if_pos m]
      · simp only [if_pos (show O.size + (decT x.f1).size ≤ 9223372036854775807 by omega)]
        refine Ev.bind (a := decT ((j - i : Nat) : Int)) d2 ?_
        simp only [if_pos (show 1 + (decT ((j - i : Nat) : Int)).size ≤ 9223372036854775807 by omega), if_pos (show (O ++ decT x.f1).size + ((⟨#[42]⟩ : ByteArray) ++ decT ((j - i : Nat) : Int)).size ≤ 9223372036854775807 by omega)]
        exact h
    · have e : O ++ decT x.f1 = O ++ mkB (wordL x (j - i)) := by
        apply ba_ext
        rw [ba_app, ba_app]
        unfold wordL
        rw [if_neg c, if_neg (show ¬ 1 < j - i by omega), List.append_nil, List.append_nil]
        rfl
      rw [← e] at h
      refine Ev.step (f := fun k => (spec_l01Dec.f k x.f1).bind fun t147 => (if O.size + t147.size ≤ 9223372036854775807 then (spec_l02Text.l0 k t (O ++ t147) (j : Int)) else none)) (fun k => ?_) (Ev.bind (a := decT x.f1) d1 ?_)
      · rw [spec_l02Text.j3, if_pos g1, if_pos g2, rdA, hx, hw]
        simp only [if_neg c, if_neg m]
      · simp only [if_pos (show O.size + (decT x.f1).size ≤ 9223372036854775807 by omega)]
        exact h
theorem ts_l0 (t : List S45) (ht : t.length ≤ 60) (hv : ∀ x ∈ t, 0 ≤ x.f1 ∧ x.f1 ≤ 63) (n : Nat) : ∀ (i : Nat) (P : List (List UInt8)), t.length - i ≤ n → i ≤ t.length → P.length ≤ i → (i = 0 ↔ P = []) → (∀ p ∈ P, p.length ≤ 24) →
    Ev (fun k => spec_l02Text.l0 k t (mkB (Go.Lib.join P [32])) (i : Int)) (mkB (Go.Lib.join (P ++ wds n (t.drop i)) [32])) := by
  induction n with
  | zero =>
    intro i P hn hi hP h0 hp
    rw [wds, List.append_nil]
    exact ev_ret (fun k => by rw [spec_l02Text.l0, if_neg (by omega)])
  | succ n ih =>
    intro i P hn hi hP h0 hp
    by_cases c : i = t.length
    · rw [List.drop_eq_nil_of_le (by omega), wds, List.append_nil]
      exact ev_ret (fun k => by rw [spec_l02Text.l0, if_neg (by omega)])
    · have hl : i < t.length := by omega
      have hx := hv _ (gmem z45 t i hl)
      rw [gdrop z45 t i hl, wds]
      have hs := same_le (t.getD i z45) (t.drop (i + 1))
      rw [List.length_drop] at hs
      generalize hsv : same (t.getD i z45) (t.drop (i + 1)) = s at *
      have hd : (t.drop (i + 1)).drop s = t.drop (i + 1 + s) := by rw [List.drop_drop]
      rw [hd]
      have hw := wordL_len (t.getD i z45) (s + 1) hx (by omega)
      have h1 := ih (i + 1 + s) (P ++ [wordL (t.getD i z45) (s + 1)]) (by omega) (by omega) (by simp; omega) ⟨fun h => by omega, fun h => by simp at h⟩ (fun p hp2 => by
        rcases List.mem_append.1 hp2 with h | h
        · exact hp p h
        · rw [List.mem_singleton] at h; rw [h]; exact hw)
      rw [List.append_assoc, List.singleton_append, show s + 1 = (i + 1 + s) - i by omega] at h1
      rw [show s + 1 = (i + 1 + s) - i by omega]
      have hj := join_len 24 P [32] (by simp) hp
      have hjs : (mkB (Go.Lib.join P [32])).size ≤ 1500 := by rw [ba_size]; show (Go.Lib.join P [32]).length ≤ _; omega
      have h2 : Ev (fun k => spec_l02Text.j2 k t (mkB (Go.Lib.join P [32])) (i : Int) ((i + 1 + s : Nat) : Int)) (mkB (Go.Lib.join (P ++ wordL (t.getD i z45) (i + 1 + s - i) :: wds n (t.drop (i + 1 + s))) [32])) := by
        by_cases z : i = 0
        · have hP0 := h0.1 z
          have e : mkB (Go.Lib.join (P ++ [wordL (t.getD i z45) (i + 1 + s - i)]) [32]) = mkB (Go.Lib.join P [32]) ++ mkB (wordL (t.getD i z45) (i + 1 + s - i)) := by
            apply ba_ext
            rw [ba_app, hP0, List.nil_append]
            show Go.Lib.join [_] [32] = Go.Lib.join [] [32] ++ _
            rw [Go.Lib.join_one, Go.Lib.join_nil, List.nil_append]
            rfl
          rw [e] at h1
          have h3 := ts_j3 t ht (mkB (Go.Lib.join P [32])) i (i + 1 + s) hl (by omega) (by omega) (by omega) _ rfl hx h1
          exact Ev.step (fun k => by rw [spec_l02Text.j2, if_neg (by omega)]) h3
        · have hP0 : P ≠ [] := fun h => z (h0.2 h)
          have e : mkB (Go.Lib.join (P ++ [wordL (t.getD i z45) (i + 1 + s - i)]) [32]) = (mkB (Go.Lib.join P [32]) ++ (⟨#[32]⟩ : ByteArray)) ++ mkB (wordL (t.getD i z45) (i + 1 + s - i)) := by
            apply ba_ext
            rw [ba_app, ba_app]
            show Go.Lib.join (P ++ [_]) [32] = _
            rw [join_snoc _ hP0]
            rfl
          rw [e] at h1
          have zs : (mkB (Go.Lib.join P [32]) ++ (⟨#[32]⟩ : ByteArray)).size = (mkB (Go.Lib.join P [32])).size + 1 := ByteArray.size_append
          have h3 := ts_j3 t ht (mkB (Go.Lib.join P [32]) ++ (⟨#[32]⟩ : ByteArray)) i (i + 1 + s) hl (by omega) (by omega) (by omega) _ rfl hx h1
          exact Ev.step (fun k => by rw [spec_l02Text.j2, if_pos (by omega), if_pos (by omega)]) h3
      have h3 := ts_l1 t ht (mkB (Go.Lib.join P [32])) i hl (t.drop i) i rfl (by omega) (by
        rw [gdrop z45 t i hl, same, if_pos (by simp), hsv, show i + (s + 1) = i + 1 + s by omega]
        exact h2)
      refine Ev.step (fun k => ?_) h3
      rw [spec_l02Text.l0, if_pos (by omega)]
theorem spec_textT (t : List S45) (h : traceOk t = true) : Ev (fun k => spec_l02Text.f k t) (textT t) :=
  ts_l0 t (traceOk_len h) (fun x hx => (traceOk_mem h hx).2.2) t.length 0 [] (by omega) (by omega) (by simp) ⟨fun _ => rfl, fun _ => rfl⟩ (fun p hp => by cases hp)

theorem spec_acc (x : S45) : ((spec_l02Kind.f x.f0).bind fun t => if t = true then (spec_l02Address.f x.f1).bind fun u => some u else some false) = some (accOk x) := by
  unfold spec_l02Kind.f spec_l02Address.f spec_l00In.f accOk
  by_cases h0 : x.f0 = 0
  · by_cases h1 : 0 ≤ x.f1 <;> by_cases h2 : x.f1 ≤ 63 <;> simp [h0, h1, h2]
  · by_cases h3 : x.f0 = 1
    · by_cases h1 : 0 ≤ x.f1 <;> by_cases h2 : x.f1 ≤ 63 <;> simp [h3, h1, h2]
    · have : ¬ (0 ≤ x.f0 ∧ x.f0 ≤ 1 ∧ 0 ≤ x.f1 ∧ x.f1 ≤ 63) := by omega
      simp [h0, h3, this]
theorem spec_trace_l (l : List S45) (hl : l.length ≤ 140737488355328) (d : Nat) : ∀ (i : Nat), l.length - i = d → i ≤ l.length → Ev (fun k => spec_l02Is.l0 k l (i : Int)) (decide (l.length ≤ 60) && (l.drop i).all accOk) := by
  induction d with
  | zero =>
    intro i hd hi
    rw [List.drop_eq_nil_of_le (by omega), List.all_nil, Bool.and_true]
    refine ev_ret (fun k => ?_)
    rw [spec_l02Is.l0, if_neg (by omega)]
    by_cases h : l.length ≤ 60
    · rw [decide_eq_true h, decide_eq_true (by omega)]
    · rw [decide_eq_false h, decide_eq_false (by omega)]
  | succ d ih =>
    intro i hd hi
    rw [gdrop z45 l i (by omega), List.all_cons]
    have ha := spec_acc (l.getD i z45)
    have e1 := ih (i + 1) (by omega) (by omega)
    rw [show ((i + 1 : Nat) : Int) = (i : Int) + 1 by omega] at e1
    obtain ⟨b1, hb1⟩ : ∃ b, spec_l02Kind.f (l.getD i z45).f0 = some b := by unfold spec_l02Kind.f; split <;> exact ⟨_, rfl⟩
    obtain ⟨b2, hb2⟩ : ∃ b, spec_l02Address.f (l.getD i z45).f1 = some b := by unfold spec_l02Address.f spec_l00In.f; split <;> exact ⟨_, rfl⟩
    rw [hb1, hb2] at ha
    cases b1 with
    | false =>
      have ha2 : accOk (l.getD i z45) = false := by simpa using ha.symm
      rw [ha2, Bool.false_and, Bool.and_false]
      exact ev_ret (fun k => by rw [spec_l02Is.l0, if_pos (by omega), if_pos (by omega), rdA, hb1, Option.bind_some, if_neg (by decide)])
    | true =>
      cases b2 with
      | false =>
        have ha2 : accOk (l.getD i z45) = false := by simpa using ha.symm
        rw [ha2, Bool.false_and, Bool.and_false]
        exact ev_ret (fun k => by rw [spec_l02Is.l0, if_pos (by omega), if_pos (by omega), rdA, hb1, Option.bind_some, if_pos rfl, hb2, Option.bind_some, if_neg (by decide)])
      | true =>
        have ha2 : accOk (l.getD i z45) = true := by simpa using ha.symm
        rw [ha2, Bool.true_and]
        refine Ev.step (fun k => ?_) e1
        rw [spec_l02Is.l0, if_pos (by omega), if_pos (by omega), rdA, hb1, Option.bind_some, if_pos rfl, hb2, Option.bind_some, if_pos rfl, wid (x := (i : Int) + 1) (by omega) (by omega)]
theorem spec_trace (l : List S45) (hl : l.length ≤ 140737488355328) : Ev (fun k => spec_l02Is.f k l) (traceOk l) := spec_trace_l l hl l.length 0 (by omega) (by omega)

/-! ReadTrace, the reference's -/
def isDg (c : UInt8) : Bool := decide (48 ≤ c.toNat) && decide (c.toNat ≤ 57)
def dg4 : Nat → Int → List UInt8 → Int × List UInt8
  | 0, n, l => (n, l)
  | _ + 1, n, [] => (n, [])
  | f + 1, n, c :: l => if isDg c = true then dg4 f (10 * n + ((c.toNat : Int) - 48)) l else (n, c :: l)
def dgm : Int → List UInt8 → Int × List UInt8
  | n, [] => (n, [])
  | n, c :: l => if isDg c = true ∧ n < 1000 then dgm (10 * n + ((c.toNat : Int) - 48)) l else (n, c :: l)
def kdL : List UInt8 → Int × List UInt8
  | [] => (0, [])
  | c :: l => if c = 119 then (1, l) else (0, c :: l)
def mnL : List UInt8 → Int × List UInt8
  | [] => (1, [])
  | c :: l => if c = 42 then dgm 0 l else (1, c :: l)
def padL (t : List S45) (x : S45) (m : Int) : List S45 := t ++ List.replicate (min m.toNat (61 - t.length)) x
def readL : Nat → List S45 → List UInt8 → List S45
  | 0, t, _ => t
  | _ + 1, t, [] => t
  | f + 1, t, c :: l => readL f (padL t ⟨(kdL (dg4 4 0 (c :: l)).2).1, (dg4 4 0 (c :: l)).1⟩ (mnL (kdL (dg4 4 0 (c :: l)).2).2).1) ((mnL (kdL (dg4 4 0 (c :: l)).2).2).2.drop 1)
/-- The text's rest at i. -/
def At (s : ByteArray) (i : Nat) (l : List UInt8) : Prop := s.data.toList.drop i = l ∧ i + l.length = s.size
theorem At.cons {s : ByteArray} {i : Nat} {c : UInt8} {l : List UInt8} (h : At s i (c :: l)) : i < s.size ∧ bt s (i : Int) = (c.toNat : Int) ∧ At s (i + 1) l := by
  obtain ⟨h1, h2, h3⟩ := bt_cons s i c l h.1
  refine ⟨h1, h2, h3, ?_⟩
  have := h.2
  rw [List.length_cons] at this
  omega
theorem At.nil {s : ByteArray} {i : Nat} (h : At s i []) : i = s.size := h.2
theorem dg4_len : ∀ (f : Nat) (n : Int) (l : List UInt8), (dg4 f n l).2.length ≤ l.length
  | 0, n, l => Nat.le_refl _
  | _ + 1, n, [] => Nat.le_refl _
  | f + 1, n, c :: l => by
    rw [dg4]
    split
    · have := dg4_len f (10 * n + ((c.toNat : Int) - 48)) l
      rw [List.length_cons]; omega
    · exact Nat.le_refl _
theorem dgm_len : ∀ (l : List UInt8) (n : Int), (dgm n l).2.length ≤ l.length
  | [], n => Nat.le_refl _
  | c :: l, n => by
    rw [dgm]
    split
    · have := dgm_len l (10 * n + ((c.toNat : Int) - 48))
      rw [List.length_cons]; omega
    · exact Nat.le_refl _
theorem kdL_len (l : List UInt8) : (kdL l).2.length ≤ l.length := by
  cases l with
  | nil => exact Nat.le_refl _
  | cons c l =>
    rw [kdL]
    split
    · show l.length ≤ _; rw [List.length_cons]; omega
    · exact Nat.le_refl _
theorem mnL_len (l : List UInt8) : (mnL l).2.length ≤ l.length := by
  cases l with
  | nil => exact Nat.le_refl _
  | cons c l =>
    rw [mnL]
    split
    · have := dgm_len l 0; rw [List.length_cons]; omega
    · exact Nat.le_refl _
theorem bt_sub (c : UInt8) (h : 48 ≤ c.toNat) : ((c.toNat : Int) - 48) % 256 = (c.toNat : Int) - 48 := by have := c.toNat_lt; omega
theorem padL_len (t : List S45) (x : S45) (m : Int) (h : t.length ≤ 61) : (padL t x m).length ≤ 61 := by
  unfold padL
  rw [List.length_append, List.length_replicate]
  have : min m.toNat (61 - t.length) ≤ 61 - t.length := Nat.min_le_right _ _
  omega
/-- The accesses are put. -/
theorem l3_ev (s : ByteArray) (hs : s.size ≤ 1000) (i : Nat) (hi : i ≤ 1000) (m : Int) (hm : m ≤ 20000) (x : S45) {r : List S45} (d : Nat) : ∀ (k0 : Nat) (t : List S45), (m - (k0 : Int)).toNat = d → k0 ≤ 20000 → t.length ≤ 61 →
    Ev (fun k => spec_l02Read.l0 k s (padL t x (m - (k0 : Int))) ((i + 1 : Nat) : Int)) r → Ev (fun k => spec_l02Read.l3 k s t (i : Int) m (k0 : Int) x.f0 x.f1) r := by
  have e2 : wrap64 ((i : Int) + 1) = ((i + 1 : Nat) : Int) := by rw [wid (by omega) (by omega)]; omega
  induction d with
  | zero =>
    intro k0 t hd hk ht h
    have e : padL t x (m - (k0 : Int)) = t := by unfold padL; rw [hd]; simp
    rw [e] at h
    exact Ev.step (fun k => by rw [spec_l02Read.l3, if_neg (by omega), e2]) h
  | succ d ih =>
    intro k0 t hd hk ht h
    by_cases c : (t.length : Int) ≤ 60
    · have hx := ih (k0 + 1) (t ++ [x]) (by omega) (by omega) (by simp; omega) (by
        have e : padL (t ++ [x]) x (m - ((k0 + 1 : Nat) : Int)) = padL t x (m - (k0 : Int)) := by
          unfold padL
          rw [List.append_assoc, List.length_append, List.length_singleton, show (m - ((k0 + 1 : Nat) : Int)).toNat = d by omega, hd, List.singleton_append, ← List.replicate_succ, show min d (61 - (t.length + 1)) + 1 = min (d + 1) (61 - t.length) by omega]
        rw [e]; exact h)
      refine Ev.step (fun k => ?_) hx
      rw [spec_l02Read.l3, if_pos (by omega), if_pos c, if_pos (by omega), wid (x := (k0 : Int) + 1) (by omega) (by omega), show ((k0 + 1 : Nat) : Int) = (k0 : Int) + 1 by omega]
    · have e : padL t x (m - (k0 : Int)) = t := by unfold padL; rw [show 61 - t.length = 0 by omega]; simp
      rw [e] at h
      exact Ev.step (fun k => by rw [spec_l02Read.l3, if_pos (by omega), if_neg c, e2]) h
theorem j7_ev (s : ByteArray) (hs : s.size ≤ 1000) (t : List S45) (ht : t.length ≤ 61) (i : Nat) (hi : i ≤ 1000) (m : Int) (hm : m ≤ 20000) (x : S45) {r : List S45}
    (h : Ev (fun k => spec_l02Read.l0 k s (padL t x m) ((i + 1 : Nat) : Int)) r) : Ev (fun k => spec_l02Read.j7 k s t (i : Int) m x.f0 x.f1) r := by
  have := l3_ev s hs i hi m hm x (m - ((0 : Nat) : Int)).toNat 0 t rfl (by omega) ht (by rw [show m - ((0 : Nat) : Int) = m by omega]; exact h)
  exact Ev.step (fun k => by rw [spec_l02Read.j7]; rfl) this
/-- How many. -/
theorem l2_ev (s : ByteArray) (hs : s.size ≤ 1000) (t : List S45) (ht : t.length ≤ 61) (x : S45) {r : List S45} : ∀ (l : List UInt8) (i : Nat) (n : Int), At s i l → 0 ≤ n → n ≤ 20000 →
    (∀ i2, At s i2 (dgm n l).2 → Ev (fun k => spec_l02Read.l0 k s (padL t x (dgm n l).1) ((i2 + 1 : Nat) : Int)) r) → Ev (fun k => spec_l02Read.l2 k s t (i : Int) n x.f0 x.f1) r
  | [], i, n, hA, h0, h1, h => by
    have hi := hA.nil
    refine Ev.step (fun k => by rw [spec_l02Read.l2, if_neg (by omega)]) (j7_ev s hs t ht i (by omega) n h1 x (h i hA))
  | c :: l, i, n, hA, h0, h1, h => by
    obtain ⟨hi, hb, hA2⟩ := hA.cons
    rw [dgm] at h
    have e2 : wrap64 ((i : Int) + 1) = ((i + 1 : Nat) : Int) := by rw [wid (by omega) (by omega)]; omega
    have hlt := c.toNat_lt
    have stop : ¬ (isDg c = true ∧ n < 1000) → Ev (fun k => spec_l02Read.j7 k s t (i : Int) n x.f0 x.f1) r := fun q => by
      rw [if_neg q] at h
      exact j7_ev s hs t ht i (by omega) n h1 x (h i hA)
    by_cases c1 : 48 ≤ c.toNat
    case neg =>
      refine Ev.step (fun k => ?_) (stop (fun q => c1 (by unfold isDg at q; rw [Bool.and_eq_true, decide_eq_true_eq] at q; exact q.1.1)))
      rw [spec_l02Read.l2, if_pos (by omega), if_pos (by omega), hb, if_neg (by omega)]
    by_cases c2 : c.toNat ≤ 57
    case neg =>
      refine Ev.step (fun k => ?_) (stop (fun q => c2 (by unfold isDg at q; rw [Bool.and_eq_true, decide_eq_true_eq, decide_eq_true_eq] at q; exact q.1.2)))
      rw [spec_l02Read.l2, if_pos (by omega), if_pos (by omega), hb, if_pos (by omega), if_neg (by omega)]
    by_cases c3 : n < 1000
    case neg =>
      refine Ev.step (fun k => ?_) (stop (fun q => c3 q.2))
      rw [spec_l02Read.l2, if_pos (by omega), if_pos (by omega), hb, if_pos (by omega), if_pos (by omega), if_neg c3]
    rw [if_pos ⟨by unfold isDg; rw [decide_eq_true c1, decide_eq_true c2]; rfl, c3⟩] at h
    have hx := l2_ev s hs t ht x l (i + 1) (10 * n + ((c.toNat : Int) - 48)) hA2 (by omega) (by omega) h
    refine Ev.step (fun k => ?_) hx
    rw [spec_l02Read.l2, if_pos (by omega), if_pos (by omega), hb, if_pos (by omega), if_pos (by omega), if_pos c3, bt_sub c c1, wid (x := 10 * n) (by omega) (by omega), wid (x := 10 * n + ((c.toNat : Int) - 48)) (by omega) (by omega), e2]
theorem j4_ev (s : ByteArray) (hs : s.size ≤ 1000) (t : List S45) (ht : t.length ≤ 61) (x : S45) {r : List S45} (l : List UInt8) (i : Nat) (hA : At s i l)
    (h : ∀ i2, At s i2 (mnL l).2 → Ev (fun k => spec_l02Read.l0 k s (padL t x (mnL l).1) ((i2 + 1 : Nat) : Int)) r) : Ev (fun k => spec_l02Read.j4 k s t (i : Int) x.f0 x.f1) r := by
  cases l with
  | nil =>
    have hi := hA.nil
    refine Ev.step (f := fun k => spec_l02Read.j5 k s t (i : Int) 1 false x.f0 x.f1) (fun k => by rw [spec_l02Read.j4, if_neg (by omega)]) ?_
    exact Ev.step (fun k => by rw [spec_l02Read.j5, if_neg (by decide)]) (j7_ev s hs t ht i (by omega) 1 (by omega) x (h i hA))
  | cons c l =>
    obtain ⟨hi, hb, hA2⟩ := hA.cons
    rw [mnL] at h
    have e2 : wrap64 ((i : Int) + 1) = ((i + 1 : Nat) : Int) := by rw [wid (by omega) (by omega)]; omega
    refine Ev.step (f := fun k => spec_l02Read.j5 k s t (i : Int) 1 (((c.toNat : Int)) == 42) x.f0 x.f1) (fun k => by rw [spec_l02Read.j4, if_pos (by omega), if_pos (by omega), hb]) ?_
    by_cases q : c = 42
    · rw [if_pos q] at h
      have hx := l2_ev s hs t ht x l (i + 1) 0 hA2 (by omega) (by omega) h
      refine Ev.step (fun k => ?_) hx
      rw [spec_l02Read.j5, if_pos (by rw [q]; rfl), e2]
    · rw [if_neg q] at h
      refine Ev.step (fun k => ?_) (j7_ev s hs t ht i (by omega) 1 (by omega) x (h i hA))
      have : ¬ c.toNat = 42 := fun e => q (UInt8.toNat_inj.1 e)
      rw [spec_l02Read.j5, if_neg (by rw [beq_iff_eq]; omega)]
theorem j2_ev (s : ByteArray) (hs : s.size ≤ 1000) (t : List S45) (ht : t.length ≤ 61) (n : Int) {r : List S45} (l : List UInt8) (i : Nat) (hA : At s i l)
    (h : ∀ i2, At s i2 (mnL (kdL l).2).2 → Ev (fun k => spec_l02Read.l0 k s (padL t ⟨(kdL l).1, n⟩ (mnL (kdL l).2).1) ((i2 + 1 : Nat) : Int)) r) : Ev (fun k => spec_l02Read.j2 k s t (i : Int) n) r := by
  cases l with
  | nil =>
    have hi := hA.nil
    have hx := j4_ev s hs t ht ⟨0, n⟩ [] i hA h
    refine Ev.step (f := fun k => spec_l02Read.j3 k s t (i : Int) false 0 n) (fun k => by rw [spec_l02Read.j2, if_neg (by omega)]) ?_
    exact Ev.step (fun k => by rw [spec_l02Read.j3, if_neg (by decide)]) hx
  | cons c l =>
    obtain ⟨hi, hb, hA2⟩ := hA.cons
    rw [kdL] at h
    have e2 : wrap64 ((i : Int) + 1) = ((i + 1 : Nat) : Int) := by rw [wid (by omega) (by omega)]; omega
    refine Ev.step (f := fun k => spec_l02Read.j3 k s t (i : Int) (((c.toNat : Int)) == 119) 0 n) (fun k => by rw [spec_l02Read.j2, if_pos (by omega), if_pos (by omega), hb]) ?_
    by_cases q : c = 119
    · rw [if_pos q] at h
      have hx := j4_ev s hs t ht ⟨1, n⟩ l (i + 1) hA2 h
      refine Ev.step (fun k => ?_) hx
      rw [spec_l02Read.j3, if_pos (by rw [q]; rfl), e2]
    · rw [if_neg q] at h
      have hx := j4_ev s hs t ht ⟨0, n⟩ (c :: l) i hA h
      refine Ev.step (fun k => ?_) hx
      have : ¬ c.toNat = 119 := fun e => q (UInt8.toNat_inj.1 e)
      rw [spec_l02Read.j3, if_neg (by rw [beq_iff_eq]; omega)]
theorem l1_ev (s : ByteArray) (hs : s.size ≤ 1000) (t : List S45) (ht : t.length ≤ 61) {r : List S45} : ∀ (f g : Nat) (l : List UInt8) (i : Nat) (n : Int), f + g = 4 → At s i l → 0 ≤ n → n < 10 ^ g →
    (∀ i2, At s i2 (dg4 f n l).2 → Ev (fun k => spec_l02Read.j2 k s t (i2 : Int) (dg4 f n l).1) r) → Ev (fun k => spec_l02Read.l1 k s t (i : Int) n (g : Int)) r := by
  intro f
  induction f with
  | zero =>
    intro g l i n hg hA h0 h1 h
    have hx := h i hA
    refine Ev.step (fun k => ?_) hx
    show spec_l02Read.l1 (k + 1) s t (i : Int) n (g : Int) = spec_l02Read.j2 k s t (i : Int) n
    rw [spec_l02Read.l1]
    by_cases a1 : (i : Int) < (s.size : Int)
    · rw [if_pos a1, if_pos (by omega)]
      by_cases a2 : bt s (i : Int) ≥ 48
      · rw [if_pos a2]
        by_cases a3 : bt s (i : Int) ≤ 57
        · rw [if_pos a3, if_neg (by omega)]
        · rw [if_neg a3]
      · rw [if_neg a2]
    · rw [if_neg a1]
  | succ f ih =>
    intro g l i n hg hA h0 h1 h
    cases l with
    | nil =>
      have hi := hA.nil
      refine Ev.step (fun k => ?_) (h i hA)
      rw [spec_l02Read.l1, if_neg (by omega)]; rfl
    | cons c l =>
      obtain ⟨hi, hb, hA2⟩ := hA.cons
      rw [dg4] at h
      have e2 : wrap64 ((i : Int) + 1) = ((i + 1 : Nat) : Int) := by rw [wid (by omega) (by omega)]; omega
      have hlt := c.toNat_lt
      have hp : (10 : Int) ^ g ≤ 1000 := by
        have : g ≤ 3 := by omega
        match g, this with
        | 0, _ => decide
        | 1, _ => decide
        | 2, _ => decide
        | 3, _ => decide
      by_cases c1 : 48 ≤ c.toNat
      case neg =>
        rw [if_neg (fun q => c1 (by unfold isDg at q; rw [Bool.and_eq_true, decide_eq_true_eq] at q; exact q.1))] at h
        refine Ev.step (fun k => ?_) (h i hA)
        rw [spec_l02Read.l1, if_pos (by omega), if_pos (by omega), hb, if_neg (by omega)]
      by_cases c2 : c.toNat ≤ 57
      case neg =>
        rw [if_neg (fun q => c2 (by unfold isDg at q; rw [Bool.and_eq_true, decide_eq_true_eq, decide_eq_true_eq] at q; exact q.2))] at h
        refine Ev.step (fun k => ?_) (h i hA)
        rw [spec_l02Read.l1, if_pos (by omega), if_pos (by omega), hb, if_pos (by omega), if_neg (by omega)]
      rw [if_pos (by unfold isDg; rw [decide_eq_true c1, decide_eq_true c2]; rfl)] at h
      have hp2 : 10 * n + ((c.toNat : Int) - 48) < 10 ^ (g + 1) := by rw [Int.pow_succ]; omega
      have hx := ih (g + 1) l (i + 1) (10 * n + ((c.toNat : Int) - 48)) (by omega) hA2 (by omega) hp2 h
      refine Ev.step (fun k => ?_) hx
      rw [spec_l02Read.l1, if_pos (by omega), if_pos (by omega), hb, if_pos (by omega), if_pos (by omega), if_pos (by omega), bt_sub c c1, wid (x := 10 * n) (by omega) (by omega), wid (x := 10 * n + ((c.toNat : Int) - 48)) (by omega) (by omega), e2, wid (x := (g : Int) + 1) (by omega) (by omega), show ((g + 1 : Nat) : Int) = (g : Int) + 1 by omega]
theorem readL_nil (f : Nat) (t : List S45) : readL f t [] = t := by cases f <;> rfl
theorem l0_ev (s : ByteArray) (hs : s.size ≤ 1000) : ∀ (f : Nat) (t : List S45) (l : List UInt8) (i : Nat), At s i l → l.length ≤ f → t.length ≤ 61 → Ev (fun k => spec_l02Read.l0 k s t (i : Int)) (readL f t l) := by
  intro f
  induction f with
  | zero =>
    intro t l i hA hl ht
    have : l = [] := List.eq_nil_of_length_eq_zero (by omega)
    subst this
    have hi := hA.nil
    exact ev_ret (fun k => by rw [spec_l02Read.l0, if_neg (by omega)]; rfl)
  | succ f ih =>
    intro t l i hA hl ht
    cases l with
    | nil =>
      have hi := hA.nil
      exact ev_ret (fun k => by rw [spec_l02Read.l0, if_neg (by omega)]; rfl)
    | cons c l =>
      have hi := hA.cons.1
      rw [readL]
      have l1 := dg4_len 4 0 (c :: l)
      have l2 := kdL_len (dg4 4 0 (c :: l)).2
      have l3 := mnL_len (kdL (dg4 4 0 (c :: l)).2).2
      rw [List.length_cons] at hl l1
      have hx := l1_ev s hs t ht (r := readL f (padL t ⟨(kdL (dg4 4 0 (c :: l)).2).1, (dg4 4 0 (c :: l)).1⟩ (mnL (kdL (dg4 4 0 (c :: l)).2).2).1) ((mnL (kdL (dg4 4 0 (c :: l)).2).2).2.drop 1)) 4 0 (c :: l) i 0 rfl hA (by omega) (by decide) (fun i2 hA2 => ?_)
      · exact Ev.step (fun k => by rw [spec_l02Read.l0, if_pos (by omega)]; rfl) hx
      · refine j2_ev s hs t ht _ _ i2 hA2 (fun i3 hA3 => ?_)
        have hp := padL_len t ⟨(kdL (dg4 4 0 (c :: l)).2).1, (dg4 4 0 (c :: l)).1⟩ (mnL (kdL (dg4 4 0 (c :: l)).2).2).1 ht
        generalize padL t ⟨(kdL (dg4 4 0 (c :: l)).2).1, (dg4 4 0 (c :: l)).1⟩ (mnL (kdL (dg4 4 0 (c :: l)).2).2).1 = t2 at hp ⊢
        generalize (mnL (kdL (dg4 4 0 (c :: l)).2).2).2 = R at hA3 l3 ⊢
        cases R with
        | nil =>
          have h3 := hA3.nil
          rw [List.drop_nil, readL_nil]
          exact ev_ret (fun k => by rw [spec_l02Read.l0, if_neg (by omega)])
        | cons c' R =>
          rw [List.length_cons] at l3
          rw [List.drop_succ_cons, List.drop_zero]
          exact ih t2 R (i3 + 1) hA3.cons.2.2 (by omega) hp
theorem spec_read (s : ByteArray) (hs : s.size ≤ 1000) (f : Nat) (hf : s.size ≤ f) : Ev (fun k => spec_l02Read.f k s) (readL f [] s.data.toList) :=
  l0_ev s hs f [] s.data.toList 0 ⟨by rw [List.drop_zero], by rw [ba_size]; omega⟩ (by rw [← ba_size]; exact hf) (by simp)
theorem readL_len : ∀ (f : Nat) (t : List S45) (l : List UInt8), t.length ≤ 61 → (readL f t l).length ≤ 61
  | 0, t, l, h => h
  | _ + 1, t, [], h => h
  | f + 1, t, c :: l, h => readL_len f _ _ (padL_len _ _ _ h)
/-! the words are read -/
def stp (l : List UInt8) : Prop := l = [] ∨ ∃ c r, l = c :: r ∧ isDg c = false
theorem dg4_dd : ∀ (ds : List UInt8) (f n : Nat) (tail : List UInt8), (∀ c ∈ ds, 48 ≤ c.toNat ∧ c.toNat ≤ 57) → ds.length ≤ f → stp tail → dg4 f (n : Int) (ds ++ tail) = (((vl n ds : Nat) : Int), tail)
  | [], 0, n, tail, _, _, _ => rfl
  | [], f + 1, n, tail, _, _, ht => by
    rcases ht with rfl | ⟨c, r, rfl, hc⟩
    · rfl
    · rw [List.nil_append, dg4, if_neg (by rw [hc]; decide)]; rfl
  | c :: ds, 0, n, tail, _, hl, _ => by simp at hl
  | c :: ds, f + 1, n, tail, hd, hl, ht => by
    have hc := hd c (List.mem_cons_self ..)
    rw [List.cons_append, dg4, if_pos (by unfold isDg; rw [decide_eq_true hc.1, decide_eq_true hc.2]; rfl), vl_cons, show 10 * (n : Int) + ((c.toNat : Int) - 48) = ((n * 10 + (c.toNat - 48) : Nat) : Int) by omega]
    exact dg4_dd ds f _ tail (fun c hc => hd c (List.mem_cons_of_mem _ hc)) (by simpa using hl) ht
theorem dgm_dd : ∀ (ds : List UInt8) (n : Nat) (tail : List UInt8), (∀ c ∈ ds, 48 ≤ c.toNat ∧ c.toNat ≤ 57) → vl n ds < 1000 → stp tail → dgm (n : Int) (ds ++ tail) = (((vl n ds : Nat) : Int), tail)
  | [], n, tail, _, _, ht => by
    rcases ht with rfl | ⟨c, r, rfl, hc⟩
    · rfl
    · rw [List.nil_append, dgm, if_neg (by rw [hc]; exact fun q => absurd q.1 (by decide))]; rfl
  | c :: ds, n, tail, hd, hv, ht => by
    have hc := hd c (List.mem_cons_self ..)
    have hg := vl_ge ds (n * 10 + (c.toNat - 48))
    rw [vl_cons] at hv ⊢
    rw [List.cons_append, dgm, if_pos ⟨by unfold isDg; rw [decide_eq_true hc.1, decide_eq_true hc.2]; rfl, by omega⟩, show 10 * (n : Int) + ((c.toNat : Int) - 48) = ((n * 10 + (c.toNat - 48) : Nat) : Int) by omega]
    exact dgm_dd ds _ tail (fun c hc => hd c (List.mem_cons_of_mem _ hc)) hv ht
theorem itoa_nn (n : Int) (h : 0 ≤ n) : Go.Lib.itoa n = Go.Lib.decDigits n.toNat := by unfold Go.Lib.itoa; rw [if_neg (by omega)]
theorem read_one (x : S45) (m : Nat) (hx : 0 ≤ x.f0 ∧ x.f0 ≤ 1 ∧ 0 ≤ x.f1 ∧ x.f1 ≤ 63) (h1 : 1 ≤ m) (h2 : m ≤ 60) (tail : List UInt8) (ht : tail = [] ∨ ∃ r, tail = 32 :: r) :
    (dg4 4 0 (wordL x m ++ tail)).1 = x.f1 ∧ (kdL (dg4 4 0 (wordL x m ++ tail)).2).1 = x.f0 ∧ mnL (kdL (dg4 4 0 (wordL x m ++ tail)).2).2 = ((m : Int), tail) := by
  have hst : stp tail := by
    rcases ht with rfl | ⟨r, rfl⟩
    · exact .inl rfl
    · exact .inr ⟨32, r, rfl, by decide⟩
  have e1 : dg4 4 0 (wordL x m ++ tail) = (x.f1, (if x.f0 = 1 then [119] else []) ++ ((if 1 < m then 42 :: Go.Lib.itoa (m : Int) else []) ++ tail)) := by
    have hst2 : stp ((if x.f0 = 1 then [119] else []) ++ ((if 1 < m then 42 :: Go.Lib.itoa (m : Int) else []) ++ tail)) := by
      by_cases q : x.f0 = 1
      · rw [if_pos q]; exact .inr ⟨119, _, rfl, by decide⟩
      · rw [if_neg q]
        by_cases q2 : 1 < m
        · rw [if_pos q2]; exact .inr ⟨42, _, rfl, by decide⟩
        · rw [if_neg q2]; exact hst
    have := dg4_dd (Go.Lib.decDigits x.f1.toNat) 4 0 _ (dd_dig _) (by have := dd_len (u := x.f1.toNat) (k := 3) (by omega); exact this) hst2
    rw [vl_dd, Int.toNat_of_nonneg hx.2.2.1] at this
    unfold wordL
    rw [itoa_nn x.f1 hx.2.2.1, List.append_assoc, List.append_assoc]
    exact this
  have e2 : kdL ((if x.f0 = 1 then [119] else []) ++ ((if 1 < m then 42 :: Go.Lib.itoa (m : Int) else []) ++ tail)) = (x.f0, (if 1 < m then 42 :: Go.Lib.itoa (m : Int) else []) ++ tail) := by
    by_cases q : x.f0 = 1
    · rw [if_pos q]
      show kdL (119 :: _) = _
      rw [kdL, if_pos rfl, q]
      rfl
    · rw [if_neg q, List.nil_append, show x.f0 = 0 by omega]
      by_cases q2 : 1 < m
      · rw [if_pos q2]; rfl
      · rw [if_neg q2, List.nil_append]
        rcases ht with rfl | ⟨r, rfl⟩ <;> rfl
  have e3 : mnL ((if 1 < m then 42 :: Go.Lib.itoa (m : Int) else []) ++ tail) = ((m : Int), tail) := by
    by_cases q2 : 1 < m
    · rw [if_pos q2]
      have := dgm_dd (Go.Lib.decDigits m) 0 tail (dd_dig _) (by rw [vl_dd]; omega) hst
      rw [vl_dd] at this
      show dgm 0 (Go.Lib.itoa (m : Int) ++ tail) = _
      rw [itoa_nn _ (by omega), Int.toNat_natCast]
      exact this
    · rw [if_neg q2, List.nil_append, show (m : Int) = 1 by omega]
      rcases ht with rfl | ⟨r, rfl⟩ <;> rfl
  rw [e1]
  refine ⟨rfl, ?_, ?_⟩
  · show (kdL ((if x.f0 = 1 then [119] else []) ++ ((if 1 < m then 42 :: Go.Lib.itoa (m : Int) else []) ++ tail))).1 = _
    rw [e2]
  · show mnL (kdL ((if x.f0 = 1 then [119] else []) ++ ((if 1 < m then 42 :: Go.Lib.itoa (m : Int) else []) ++ tail))).2 = _
    rw [e2, e3]
theorem readL_step (f : Nat) (t : List S45) (L : List UInt8) (h : L ≠ []) : readL (f + 1) t L = readL f (padL t ⟨(kdL (dg4 4 0 L).2).1, (dg4 4 0 L).1⟩ (mnL (kdL (dg4 4 0 L).2).2).1) ((mnL (kdL (dg4 4 0 L).2).2).2.drop 1) := by
  cases L with
  | nil => exact absurd rfl h
  | cons c l => rw [readL]
theorem tail_drop (ws : List (List UInt8)) : (Go.Lib.joinTail [32] ws).drop 1 = Go.Lib.join ws [32] := by
  cases ws with
  | nil => rfl
  | cons w r =>
    have e : Go.Lib.joinTail [32] (w :: r) = 32 :: (w ++ Go.Lib.joinTail [32] r) := by unfold Go.Lib.joinTail; simp
    rw [e, Go.Lib.join_cons]; rfl
theorem tail_form (ws : List (List UInt8)) : Go.Lib.joinTail [32] ws = [] ∨ ∃ r, Go.Lib.joinTail [32] ws = 32 :: r := by
  cases ws with
  | nil => exact .inl rfl
  | cons w r =>
    have e : Go.Lib.joinTail [32] (w :: r) = 32 :: (w ++ Go.Lib.joinTail [32] r) := by unfold Go.Lib.joinTail; simp
    exact .inr ⟨_, e⟩
theorem readL_words (t : List S45) (ht : traceOk t = true) : ∀ (n f : Nat) (acc l : List S45), acc ++ l = t → l.length ≤ n → l.length ≤ f → readL f acc (Go.Lib.join (wds n l) [32]) = t
  | n, f, acc, [], e, _, _ => by
    rw [List.append_nil] at e
    rw [wds_nil, Go.Lib.join_nil, readL_nil, e]
  | 0, f, acc, x :: l, e, hl, _ => by simp at hl
  | n + 1, 0, acc, x :: l, e, hl, hf => by simp at hf
  | n + 1, f + 1, acc, x :: l, e, hl, hf => by
    rw [List.length_cons] at hl hf
    have hlt := traceOk_len ht
    have hsl := same_le x l
    have hll : acc.length + (l.length + 1) ≤ 60 := by rw [← e, List.length_append, List.length_cons] at hlt; exact hlt
    have hx := traceOk_mem ht (x := x) (by rw [← e]; exact List.mem_append_right _ (List.mem_cons_self ..))
    rw [wds, Go.Lib.join_cons, readL_step _ _ _ (fun q => word_ne x (same x l + 1) (List.append_eq_nil_iff.1 q).1)]
    obtain ⟨r1, r2, r3⟩ := read_one x (same x l + 1) hx (by omega) (by omega) (Go.Lib.joinTail [32] (wds n (l.drop (same x l)))) (tail_form _)
    rw [r1, r2, r3]
    show readL f (padL acc ⟨x.f0, x.f1⟩ ((same x l + 1 : Nat) : Int)) ((Go.Lib.joinTail [32] (wds n (l.drop (same x l)))).drop 1) = t
    have ep : padL acc ⟨x.f0, x.f1⟩ ((same x l + 1 : Nat) : Int) = acc ++ List.replicate (same x l + 1) x := by
      unfold padL
      rw [Int.toNat_natCast, Nat.min_eq_left (by omega)]
    have er : List.replicate (same x l + 1) x ++ l.drop (same x l) = x :: l := by rw [List.replicate_succ, List.cons_append, same_rep]
    rw [ep, tail_drop]
    exact readL_words t ht n f _ _ (by rw [List.append_assoc, er, e]) (by rw [List.length_drop]; omega) (by rw [List.length_drop]; omega)
/-! the text is short -/
theorem word_sz (x : S45) (m : Nat) (hx : 0 ≤ x.f1 ∧ x.f1 ≤ 63) (h1 : 1 ≤ m) (h2 : m ≤ 60) : (wordL x m).length + 1 ≤ 4 * m := by
  have a := dd_len (u := x.f1.toNat) (k := 1) (by omega)
  have b := dd_len (u := m) (k := 1) (by omega)
  unfold wordL
  rw [itoa_nn x.f1 hx.1, itoa_nn (m : Int) (by omega), Int.toNat_natCast, List.length_append, List.length_append]
  by_cases q : x.f0 = 1 <;> by_cases q2 : 1 < m <;> simp only [q, q2, if_true, if_false, List.length_cons, List.length_nil] <;> omega
theorem wds_sz : ∀ (n : Nat) (l : List S45), l.length ≤ 60 → (∀ x ∈ l, 0 ≤ x.f1 ∧ x.f1 ≤ 63) → (Go.Lib.joinTail [32] (wds n l)).length ≤ 4 * l.length
  | 0, l, _, _ => by rw [wds]; exact Nat.zero_le _
  | n + 1, [], _, _ => by rw [wds]; exact Nat.zero_le _
  | n + 1, x :: l, hl, h => by
    rw [List.length_cons] at hl
    have hsl := same_le x l
    have e : ∀ (w : List UInt8) r, Go.Lib.joinTail [32] (w :: r) = 32 :: (w ++ Go.Lib.joinTail [32] r) := fun w r => by unfold Go.Lib.joinTail; simp
    have i1 := wds_sz n (l.drop (same x l)) (by rw [List.length_drop]; omega) (fun y hy => h y (List.mem_cons_of_mem _ (List.mem_of_mem_drop hy)))
    have i2 := word_sz x (same x l + 1) (h x (List.mem_cons_self ..)) (by omega) (by omega)
    rw [wds, e, List.length_cons, List.length_append, List.length_cons]
    rw [List.length_drop] at i1
    omega
theorem textT_sz (t : List S45) (h : traceOk t = true) : (textT t).size ≤ 240 := by
  have h1 := wds_sz t.length t (traceOk_len h) (fun x hx => (traceOk_mem h hx).2.2)
  have h2 := traceOk_len h
  have h3 : (Go.Lib.join (wds t.length t) [32]).length ≤ (Go.Lib.joinTail [32] (wds t.length t)).length := by
    rw [← tail_drop, List.length_drop]; omega
  rw [ba_size]
  show (Go.Lib.join (wds t.length t) [32]).length ≤ 240
  omega
theorem spec_rt (s : ByteArray) : Ev (fun k => spec_ReadTrace.f k s) (RT s) := by
  unfold spec_ReadTrace.f
  by_cases hs : (s.size : Int) > 360
  · simp only [if_pos hs]
    rcases RT_sound s with h | ⟨t, h, h2, h3⟩
    · rw [h]; exact Ev.now _
    · have h4 := textT_sz t h2
      have : textT t = s := by
        apply ba_ext
        rw [ByteArray.toList_eq, ByteArray.toList_eq] at h3
        exact h3
      rw [this] at h4
      omega
  · simp only [if_neg hs]
    have e1 := spec_read s (by omega) (s.size + 100) (by omega)
    have hlen := readL_len (s.size + 100) [] s.data.toList (by simp)
    have hback : ∀ t, traceOk t = true → (textT t).toList = s.toList → readL (s.size + 100) [] s.data.toList = t := fun t ht hh => by
      have := readL_words t ht t.length (s.size + 100) [] t rfl (Nat.le_refl _) (by have := traceOk_len ht; omega)
      rw [ByteArray.toList_eq, ByteArray.toList_eq] at hh
      rw [← hh]; exact this
    generalize readL (s.size + 100) [] s.data.toList = u at *
    refine Ev.bind e1 (Ev.bind (spec_trace u (by omega)) ?_)
    have no : (∀ t, traceOk t = true → (textT t).toList = s.toList → False) → RT s = ([], false) := fun q => by
      rcases RT_sound s with h | ⟨t, h, h2, h3⟩
      · exact h
      · exact absurd (q t h2 h3) id
    by_cases hu : traceOk u = true
    · simp only [if_pos hu]
      refine Ev.bind (spec_textT u hu) (ev_all fun k => ?_)
      by_cases hx : (textT u).toList = s.toList
      · rw [if_pos hx, RT_text s u hu hx]
      · rw [if_neg hx, no (fun t h2 h3 => hx (by rw [hback t h2 h3]; exact h3))]
    · simp only [if_neg hu]
      rw [no (fun t h2 h3 => hu (by rw [hback t h2 h3]; exact h2))]
      exact Ev.now _

theorem eqA_l (a : List S45) (ha : a.length ≤ 140737488355328) (d : Nat) : ∀ (i : Int), 0 ≤ i → (a.length : Int) - i = d → Ev (fun k => laws_eqAccessS.l0 k a a i) true := by
  induction d with
  | zero => intro i h0 hd; exact ev_ret (fun k => by rw [laws_eqAccessS.l0, if_neg (by omega)])
  | succ d ih =>
    intro i h0 hd
    refine Ev.step (fun k => ?_) (ih (i + 1) (by omega) (by omega))
    rw [laws_eqAccessS.l0, if_pos (by omega), if_pos h0, if_pos (by omega)]
    unfold laws_eqAccess.f
    rw [if_pos rfl, if_pos rfl, Option.bind_some, if_pos rfl, wid (x := i + 1) (by omega) (by omega)]
theorem eqA (a : List S45) (ha : a.length ≤ 140737488355328) : Ev (fun k => laws_eqAccessS.f k a a) true := by
  unfold laws_eqAccessS.f
  simp only [if_true]
  exact eqA_l a ha a.length 0 (by omega) (by omega)

/-! marks in accesses -/
/-- A list of accesses whose numbers go up two by two from a on, as far as index i. -/
def UptoA (a : Int) (n : Nat) (xs : List S45) (i : Nat) : Prop := xs.length = n ∧ ∀ j, j < i → xs.getD j z45 = ⟨a + 2 * (j : Int), a + 2 * (j : Int) + 1⟩
theorem uptoA_set {a : Int} {n i : Nat} {xs : List S45} (h : UptoA a n xs i) (hi : i < n) : UptoA a n (xs.set i ⟨a + 2 * (i : Int), a + 2 * (i : Int) + 1⟩) (i + 1) := by
  refine ⟨by rw [List.length_set]; exact h.1, fun j hj => ?_⟩
  have hl := h.1
  rw [gset _ _ _ _ _ (by omega)]
  by_cases e : i = j
  · subst e; rw [if_pos rfl]
  · rw [if_neg e]; exact h.2 j (by omega)
theorem markA_l (a : Int) (n : Nat) (h1 : 0 ≤ a) (h2 : a ≤ 1152921504606846976) (hn : n ≤ 140737488355328) (d : Nat) : ∀ (i : Nat) (xs : List S45), UptoA a n xs i → n - i = d → i ≤ n →
    ∃ ys, Ev (fun k => laws_markAccessS.l0 k xs (a + 2 * (i : Int)) (i : Int)) (a + 2 * (n : Int), ys) ∧ UptoA a n ys n := by
  induction d with
  | zero =>
    intro i xs h hd hi
    have e : i = n := by omega
    subst e
    have hl := h.1
    exact ⟨xs, ev_ret (fun k => by rw [laws_markAccessS.l0, if_neg (by omega)]), h⟩
  | succ d ih =>
    intro i xs h hd hi
    have hl := h.1
    obtain ⟨ys, e, hy⟩ := ih (i + 1) _ (uptoA_set h (by omega)) (by omega) (by omega)
    refine ⟨ys, Ev.step (fun k => ?_) e, hy⟩
    rw [laws_markAccessS.l0, if_pos (by omega), if_pos (by omega), Option.bind_some, rdA, rdA, gset _ _ _ _ _ (by rw [Int.toNat_natCast]; omega), Int.toNat_natCast, if_pos rfl, List.set_set,
      wid (x := a + 2 * (i : Int) + 1) (by omega) (by omega), wid (x := a + 2 * (i : Int) + 1 + 1) (by omega) (by omega), wid (x := (i : Int) + 1) (by omega) (by omega)]
    rw [show a + 2 * ((i + 1 : Nat) : Int) = a + 2 * (i : Int) + 1 + 1 by omega, show ((i + 1 : Nat) : Int) = (i : Int) + 1 by omega]
theorem mark_A (a : Int) (xs : List S45) (h1 : 0 ≤ a) (h2 : a ≤ 1152921504606846976) (hn : xs.length ≤ 140737488355328) :
    ∃ ys, Ev (fun k => laws_markAccessS.f k xs a) (a + 2 * (xs.length : Int), ys) ∧ UptoA a xs.length ys xs.length := by
  obtain ⟨ys, e, hy⟩ := markA_l a xs.length h1 h2 hn xs.length 0 xs ⟨rfl, fun j hj => by omega⟩ (by omega) (by omega)
  exact ⟨ys, by simpa [laws_markAccessS.f] using e, hy⟩

theorem heldA_l (a : Int) (n : Nat) (ys : List S45) (h1 : 0 ≤ a) (h2 : a ≤ 1152921504606846976) (hn : n ≤ 140737488355328) (h : UptoA a n ys n) (d : Nat) : ∀ (i : Nat), n - i = d → i ≤ n →
    Ev (fun k => laws_heldAccessS.l0 k ys (a + 2 * (i : Int)) (i : Int)) (a + 2 * (n : Int)) := by
  have hl := h.1
  induction d with
  | zero =>
    intro i hd hi
    have e : i = n := by omega
    subst e
    exact ev_ret (fun k => by rw [laws_heldAccessS.l0, if_neg (by omega)])
  | succ d ih =>
    intro i hd hi
    refine Ev.step (fun k => ?_) (ih (i + 1) (by omega) (by omega))
    have hr := h.2 i (by omega)
    rw [laws_heldAccessS.l0, if_pos (by omega), if_pos (by omega), rdA, hr, if_pos rfl,
      wid (x := a + 2 * (i : Int) + 1) (by omega) (by omega), if_pos rfl, wid (x := a + 2 * (i : Int) + 1 + 1) (by omega) (by omega), wid (x := (i : Int) + 1) (by omega) (by omega)]
    rw [show a + 2 * ((i + 1 : Nat) : Int) = a + 2 * (i : Int) + 1 + 1 by omega, show ((i + 1 : Nat) : Int) = (i : Int) + 1 by omega]
theorem mark_heldA (a : Int) (xs : List S45) (h1 : 0 ≤ a) (h2 : a ≤ 1152921504606846976) (hn : xs.length ≤ 140737488355328) :
    ∃ ys, Ev (fun k => laws_markAccessS.f k xs a) (a + 2 * (xs.length : Int), ys) ∧ Ev (fun k => laws_heldAccessS.f k ys a) (a + 2 * (xs.length : Int)) := by
  obtain ⟨ys, e, hy⟩ := mark_A a xs h1 h2 hn
  have e2 := heldA_l a xs.length ys h1 h2 hn hy xs.length 0 (by omega) (by omega)
  exact ⟨ys, e, by simpa [laws_heldAccessS.f] using e2⟩

theorem RT_len (s : ByteArray) : (RT s).1.length ≤ 60 := by
  rcases RT_sound s with h | ⟨t, h, h2, h3⟩
  · rw [h]; simp
  · rw [h]; exact traceOk_len h2
theorem FnExactReadTrace : laws_FnExactReadTrace.Pure := by
  intro s hs
  refine Ev.rounds (r := true) ?_
  unfold laws_FnExactReadTrace.f
  by_cases hb : (s.size : Int) > 1048576
  · simp only [if_pos hb]; exact Ev.now _
  simp only [if_neg hb]
  have e1 := spec_rt s
  have e2 := impl_rt s (by omega)
  have hl := RT_len s
  generalize RT s = r at *
  have e3 := eqA r.1 (by omega)
  obtain ⟨ys, hk, hh⟩ := mark_heldA 1 r.1 (by omega) (by omega) (by omega)
  refine Ev.bind e1 (Ev.bind e2 (Ev.bind e3 ?_))
  simp only [bne_self_eq_false, if_true]
  refine Ev.step (fun k => by rw [laws_FnExactReadTrace.j0, if_neg (by decide)]) ?_
  refine Ev.bind hk (Ev.bind hh ?_)
  simp only [if_neg (show ¬ (1 + 2 * (r.1.length : Int) < 0) by omega), if_true]
  refine Ev.bind e2 (Ev.bind e3 ?_)
  simp only [bne_self_eq_false, if_true]
  refine Ev.step (fun k => by rw [laws_FnExactReadTrace.j1, if_neg (by decide)]) ?_
  refine Ev.bind hh (ev_all fun k => ?_)
  rw [if_neg (by omega), if_pos rfl]

end Go.Proofs.YtbfcnacllonnbaaDoor.Pure
