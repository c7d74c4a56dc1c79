/- The program's TraceText returns what the reference's returns, for every trace. Conditions: those of the card alone. -/
import Derived.Test.YtbfcnacllonnbaaDoorPFnExactTraceTexty
namespace Go.Proofs.YtbfcnacllonnbaaDoor.Pure
open Go.RowKit Go.Proofs.YtbfcnacllonnbaaDoor.PFnExactTraceText Go.Proofs.YtbfcnacllonnbaaDoorW.PrintWords Go.Proofs.YtbfcnacllonnbaaDoorW.PrintLast Go.Proofs.YtbfcnacllonnbaaDoorW.PrintMore
set_option linter.unusedVariables false
set_option linter.unusedSimpArgs false

theorem wid {x : Int} (h1 : -9223372036854775808 ≤ x) (h2 : x < 9223372036854775808) : wrap64 x = x := by unfold wrap64; omega
theorem i64_bd {x : Int} (h : (Lit.int .i64 x).wf = true) : -9223372036854775808 ≤ x ∧ x ≤ 9223372036854775807 := by
  simp only [Lit.wf, IntKind.min, IntKind.max, IntKind.signed, IntKind.bits, Bool.and_eq_true, decide_eq_true_eq, if_true] at h
  omega
/-- A loop's step, its answer known at once. -/
theorem ev_ret {α : Type} {g : Nat → Option α} {r : α} (h : ∀ k, g (k + 1) = some r) : Ev g r := Ev.step (f := fun _ => some r) h (Ev.now r)
theorem ev_all {α : Type} {g : Nat → Option α} {r : α} (h : ∀ k, g k = some r) : Ev g r := ⟨0, fun k _ => h k⟩

/-! the decimal numeral -/
theorem dd_big {u : Nat} (h : ¬ u < 10) : Go.Lib.decDigits u = Go.Lib.decDigits (u / 10) ++ [UInt8.ofNat (48 + u % 10)] := by rw [Go.Lib.decDigits, dif_neg h]
theorem dd_ind {p : Nat → Prop} (h1 : ∀ u, u < 10 → p u) (h2 : ∀ u, ¬ u < 10 → p (u / 10) → p u) (u : Nat) : p u := by
  induction u using Nat.strongRecOn with
  | _ u ih =>
    by_cases h : u < 10
    · exact h1 u h
    · exact h2 u h (ih (u / 10) (by omega))
theorem dg_nat {d : Nat} (h : d < 10) : (UInt8.ofNat (48 + d)).toNat = 48 + d := by
  have e : (UInt8.ofNat (48 + d)).toNat = (48 + d) % 256 := rfl
  rw [e]; omega
theorem dd_ne (u : Nat) : Go.Lib.decDigits u ≠ [] := by
  refine dd_ind (p := fun u => Go.Lib.decDigits u ≠ []) (fun u h => ?_) (fun u h _ => ?_) u
  · rw [Go.Lib.decDigits_one h]; simp
  · rw [dd_big h]; simp
theorem dd_dig (u : Nat) : ∀ c ∈ Go.Lib.decDigits u, 48 ≤ c.toNat ∧ c.toNat ≤ 57 := by
  refine dd_ind (p := fun u => ∀ c ∈ Go.Lib.decDigits u, 48 ≤ c.toNat ∧ c.toNat ≤ 57) (fun u h c hc => ?_) (fun u h ih c hc => ?_) u
  · rw [Go.Lib.decDigits_one h, List.mem_singleton] at hc
    rw [hc, dg_nat h]; omega
  · rw [dd_big h, List.mem_append, List.mem_singleton] at hc
    rcases hc with hc | hc
    · exact ih c hc
    · rw [hc, dg_nat (by omega)]; omega
def vl (a : Nat) (l : List UInt8) : Nat := l.foldl (fun a c => a * 10 + (c.toNat - 48)) a
theorem vl_cons (a : Nat) (c : UInt8) (l : List UInt8) : vl a (c :: l) = vl (a * 10 + (c.toNat - 48)) l := by unfold vl; rw [List.foldl_cons]
theorem vl_app (a : Nat) (l : List UInt8) (c : UInt8) : vl a (l ++ [c]) = vl a l * 10 + (c.toNat - 48) := by unfold vl; rw [List.foldl_append]; rfl
theorem vl_dd (u : Nat) : vl 0 (Go.Lib.decDigits u) = u := by
  refine dd_ind (p := fun u => vl 0 (Go.Lib.decDigits u) = u) (fun u h => ?_) (fun u h ih => ?_) u
  · rw [Go.Lib.decDigits_one h, vl_cons, dg_nat h]
    show 0 * 10 + (48 + u - 48) = u
    omega
  · rw [dd_big h, vl_app, ih, dg_nat (by omega)]; omega
theorem vl_ge : ∀ (l : List UInt8) (a : Nat), a ≤ vl a l
  | [], a => Nat.le_refl _
  | c :: l, a => by have := vl_ge l (a * 10 + (c.toNat - 48)); rw [vl_cons]; omega
theorem pu_ok : ∀ (l : List UInt8) (acc : Nat), (∀ c ∈ l, 48 ≤ c.toNat ∧ c.toNat ≤ 57) → vl acc l ≤ 1000000000000000000 → Go.Lib.parseUintM (2 ^ 64 - 1) acc l = .ok (vl acc l)
  | [], acc, _, _ => rfl
  | c :: l, acc, h, hv => by
    have hc := h c (List.mem_cons_self ..)
    have hg := vl_ge l (acc * 10 + (c.toNat - 48))
    rw [vl_cons] at hv
    rw [Go.Lib.parseUintM, if_pos hc, if_neg (by omega), if_neg (by omega), vl_cons]
    exact pu_ok l _ (fun c hc => h c (List.mem_cons_of_mem _ hc)) hv
theorem dd_len {u k : Nat} (h : u < 10 ^ (k + 1)) : (Go.Lib.decDigits u).length ≤ k + 1 := by
  induction k generalizing u with
  | zero => rw [Go.Lib.decDigits_one (by simpa using h)]; simp
  | succ k ih =>
    by_cases c : u < 10
    · rw [Go.Lib.decDigits_one c]; simp
    · rw [dd_big c, List.length_append, List.length_singleton]
      have := ih (u := u / 10) (by rw [Nat.pow_succ] at h; omega)
      omega
theorem itoa_len {n : Int} (h1 : -1000000000 ≤ n) (h2 : n ≤ 1000000000) : (Go.Lib.itoa n).length ≤ 11 := by
  unfold Go.Lib.itoa
  split
  · rw [List.length_cons]
    have := dd_len (u := n.natAbs) (k := 9) (by omega)
    omega
  · have := dd_len (u := n.toNat) (k := 9) (by omega)
    omega
theorem itoa_ne (n : Int) : Go.Lib.itoa n ≠ [] := by
  unfold Go.Lib.itoa
  split
  · simp
  · exact dd_ne _
/-- The numeral is read back. -/
theorem parse_itoa {n : Int} (h1 : -1000000000 ≤ n) (h2 : n ≤ 1000000000) : Go.Lib.parseIntB 64 (Go.Lib.itoa n) = .ok n := by
  unfold Go.Lib.itoa
  by_cases c : n < 0
  · rw [if_pos c]
    have e := pu_ok (Go.Lib.decDigits n.natAbs) 0 (dd_dig _) (by rw [vl_dd]; omega)
    rw [vl_dd] at e
    have e2 : Go.Lib.parseUintB 64 (Go.Lib.decDigits n.natAbs) = .ok n.natAbs := by unfold Go.Lib.parseUintB; rw [if_neg (dd_ne _)]; exact e
    unfold Go.Lib.parseIntB
    simp only [show ((45 : UInt8).toNat = 43 ∨ (45 : UInt8).toNat = 45) from Or.inr rfl, if_true, e2]
    rw [if_neg (by rintro ⟨h, -⟩; exact h rfl), if_neg (by rintro ⟨-, h⟩; simp at h; omega), if_pos (show (45 : UInt8).toNat = 45 from rfl)]
    congr 1
    omega
  · rw [if_neg c]
    have e := pu_ok (Go.Lib.decDigits n.toNat) 0 (dd_dig _) (by rw [vl_dd]; omega)
    rw [vl_dd] at e
    have e2 : Go.Lib.parseUintB 64 (Go.Lib.decDigits n.toNat) = .ok n.toNat := by unfold Go.Lib.parseUintB; rw [if_neg (dd_ne _)]; exact e
    have hd := dd_dig n.toNat
    generalize Go.Lib.decDigits n.toNat = l at e2 hd
    cases l with
    | nil => exact absurd e2 (by unfold Go.Lib.parseUintB; rw [if_pos rfl]; simp)
    | cons x l =>
      have hx := hd x (List.mem_cons_self ..)
      unfold Go.Lib.parseIntB
      simp only [show ¬ (x.toNat = 43 ∨ x.toNat = 45) by omega, if_false, e2]
      rw [if_neg (by rintro ⟨-, h⟩; simp at h; omega), if_neg (by rintro ⟨h, -⟩; omega), if_neg (by omega)]
      congr 1
      omega
theorem itoa_inj {n m : Int} (h1 : -1000000000 ≤ n) (h2 : n ≤ 1000000000) (h3 : -1000000000 ≤ m) (h4 : m ≤ 1000000000) (h : Go.Lib.itoa n = Go.Lib.itoa m) : n = m := by
  have a := parse_itoa h1 h2
  rw [h, parse_itoa h3 h4] at a
  injection a with a
  exact a.symm
theorem ba_ext {a b : ByteArray} (h : a.data.toList = b.data.toList) : a = b := by
  cases a with | mk x => cases b with | mk y => exact congrArg ByteArray.mk (Array.toList_inj.1 h)
theorem ba_list (l : List UInt8) : (⟨l.toArray⟩ : ByteArray).data.toList = l := rfl
theorem ba_mk (s : ByteArray) : (⟨s.data.toList.toArray⟩ : ByteArray) = s := ba_ext rfl
theorem ba_size (s : ByteArray) : s.size = s.data.toList.length := by rw [Array.length_toList]; rfl
theorem bt_list (s : ByteArray) (i : Nat) (h : i < s.data.toList.length) : bt s (i : Int) = ((s.data.toList[i]'h).toNat : Int) := by
  have h' : i < s.size := by rw [ba_size]; exact h
  unfold bt
  rw [dif_pos (by rw [Int.toNat_natCast]; exact h')]
  simp only [Int.toNat_natCast, Array.getElem_toList]
  rfl
theorem bt_cons (s : ByteArray) (i : Nat) (c : UInt8) (l : List UInt8) (h : s.data.toList.drop i = c :: l) : i < s.size ∧ bt s (i : Int) = (c.toNat : Int) ∧ s.data.toList.drop (i + 1) = l := by
  have hl : i < s.data.toList.length := by
    have := congrArg List.length h
    rw [List.length_drop, List.length_cons] at this
    omega
  rw [List.drop_eq_getElem_cons hl] at h
  injection h with h1 h2
  refine ⟨by rw [ba_size]; exact hl, ?_, h2⟩
  rw [bt_list s i hl, h1]

/-! texts joined -/
theorem join_snoc (xs : List (List UInt8)) (h : xs ≠ []) (y s : List UInt8) : Go.Lib.join (xs ++ [y]) s = Go.Lib.join xs s ++ s ++ y := by
  cases xs with
  | nil => exact absurd rfl h
  | cons x r =>
    rw [List.cons_append, Go.Lib.join_cons, Go.Lib.join_cons]
    unfold Go.Lib.joinTail
    rw [List.map_append, List.flatten_append]
    simp
theorem join_len (c : Nat) : ∀ (xs : List (List UInt8)) (s : List UInt8), s.length ≤ 1 → (∀ x ∈ xs, x.length ≤ c) → (Go.Lib.join xs s).length ≤ (c + 1) * xs.length
  | [], s, _, _ => by rw [Go.Lib.join_nil]; simp
  | x :: r, s, hs, h => by
    rw [Go.Lib.join_cons, List.length_append, Go.Lib.joinTail_length]
    have hx := h x (List.mem_cons_self ..)
    have hl : ∀ (r : List (List UInt8)), (∀ x ∈ r, x.length ≤ c) → Go.Lib.lens r ≤ c * r.length := by
      intro r
      induction r with
      | nil => intro _; simp [Go.Lib.lens]
      | cons a r ih =>
        intro h
        have h1 := ih (fun x hx => h x (List.mem_cons_of_mem _ hx))
        have h2 := h a (List.mem_cons_self ..)
        unfold Go.Lib.lens at h1 ⊢
        rw [List.map_cons, List.sum_cons, List.length_cons, Nat.mul_succ]
        omega
    have h1 := hl r (fun x hx => h x (List.mem_cons_of_mem _ hx))
    have h2 : s.length * r.length ≤ 1 * r.length := Nat.mul_le_mul_right _ hs
    rw [List.length_cons, Nat.mul_succ, Nat.add_mul]
    omega
theorem join_ne (x : List UInt8) (r : List (List UInt8)) (s : List UInt8) (h : x ≠ []) : Go.Lib.join (x :: r) s ≠ [] := by
  rw [Go.Lib.join_cons]
  cases x with
  | nil => exact absurd rfl h
  | cons a x => simp

/-! texts and their bytes; the numeral's text -/
theorem str1 (x : Int) : strOfNums [x] = ⟨#[UInt8.ofNat x.toNat]⟩ := rfl
theorem ba_app (a b : ByteArray) : (a ++ b).data.toList = a.data.toList ++ b.data.toList := by
  rw [ByteArray.data_append, Array.toList_append]
theorem ba_len (a : ByteArray) : a.size = a.data.toList.length := ba_size a
/-- The numeral's text. -/
def decT (n : Int) : ByteArray := ⟨(Go.Lib.itoa n).toArray⟩

theorem impl_dec (n : Int) (h0 : -9223372036854775808 ≤ n) (h1 : n ≤ 9223372036854775807) : impl_Decimal.f n = some (decT n) := by unfold impl_Decimal.f; rw [if_pos ⟨h0, h1⟩]; rfl

theorem getD_set (xs : List Int) (i j : Nat) (v : Int) (hi : i < xs.length) : (xs.set i v).getD j 0 = if i = j then v else xs.getD j 0 := by
  rw [List.getD_eq_getElem?_getD, List.getElem?_set]
  by_cases e : i = j
  · subst e; rw [if_pos rfl, if_pos hi, if_pos rfl]; rfl
  · rw [if_neg e, if_neg e, List.getD_eq_getElem?_getD]
theorem ext_getD {xs ys : List Int} (h : xs.length = ys.length) (he : ∀ j, j < xs.length → xs.getD j 0 = ys.getD j 0) : xs = ys := by
  apply List.ext_getElem h
  intro j h1 h2
  have := he j h1
  rwa [List.getD_eq_getElem?_getD, List.getD_eq_getElem?_getD, List.getElem?_eq_getElem h1, List.getElem?_eq_getElem h2] at this
theorem rd_nat (xs : List Int) (i : Nat) : rd xs (i : Int) = xs.getD i 0 := by unfold rd; rw [Int.toNat_natCast]
theorem rd_mem (xs : List Int) (i : Nat) (h : i < xs.length) : rd xs (i : Int) ∈ xs := by
  rw [rd_nat, List.getD_eq_getElem?_getD, List.getElem?_eq_getElem h]
  exact List.getElem_mem _
theorem take_snoc (xs : List Int) (i : Nat) (h : i < xs.length) : xs.take (i + 1) = xs.take i ++ [rd xs (i : Int)] := by
  rw [List.take_succ_eq_append_getElem h, rd_nat, List.getD_eq_getElem?_getD, List.getElem?_eq_getElem h]
  rfl
theorem drop_cons (xs : List Int) (i : Nat) (h : i < xs.length) : xs.drop i = rd xs (i : Int) :: xs.drop (i + 1) := by
  rw [List.drop_eq_getElem_cons h, rd_nat, List.getD_eq_getElem?_getD, List.getElem?_eq_getElem h]
  rfl

theorem gset {α : Type} (d : α) (xs : List α) (i j : Nat) (v : α) (hi : i < xs.length) : (xs.set i v).getD j d = if i = j then v else xs.getD j d := by
  rw [List.getD_eq_getElem?_getD, List.getElem?_set]
  by_cases e : i = j
  · subst e; rw [if_pos rfl, if_pos hi, if_pos rfl]; rfl
  · rw [if_neg e, if_neg e, List.getD_eq_getElem?_getD]
theorem gext {α : Type} (d : α) {xs ys : List α} (h : xs.length = ys.length) (he : ∀ j, j < xs.length → xs.getD j d = ys.getD j d) : xs = ys := by
  apply List.ext_getElem h
  intro j h1 h2
  have := he j h1
  rwa [List.getD_eq_getElem?_getD, List.getD_eq_getElem?_getD, List.getElem?_eq_getElem h1, List.getElem?_eq_getElem h2] at this
theorem gmem {α : Type} (d : α) (xs : List α) (i : Nat) (h : i < xs.length) : xs.getD i d ∈ xs := by
  rw [List.getD_eq_getElem?_getD, List.getElem?_eq_getElem h]
  exact List.getElem_mem _
theorem gdrop {α : Type} (d : α) (xs : List α) (i : Nat) (h : i < xs.length) : xs.drop i = xs.getD i d :: xs.drop (i + 1) := by
  rw [List.drop_eq_getElem_cons h, List.getD_eq_getElem?_getD, List.getElem?_eq_getElem h]
  rfl
theorem gmap {α β : Type} (d : α) (e : β) (f : α → β) (xs : List α) (i : Nat) (h : i < xs.length) : (xs.map f).getD i e = f (xs.getD i d) := by
  rw [List.getD_eq_getElem?_getD, List.getD_eq_getElem?_getD, List.getElem?_map, List.getElem?_eq_getElem h]
  rfl

/-! accesses -/
theorem rdA (xs : List S45) (i : Nat) : rd_T45 xs (i : Int) = xs.getD i z45 := by unfold rd_T45; rw [Int.toNat_natCast]

def traceOk (l : List S45) : Bool := decide (l.length ≤ 60) && l.all accOk
theorem impl_trace (l : List S45) : impl_ValidTrace.f l = some (traceOk l) := rfl
theorem traceOk_len {l : List S45} (h : traceOk l = true) : l.length ≤ 60 := by
  unfold traceOk at h
  rw [Bool.and_eq_true] at h
  exact of_decide_eq_true h.1
theorem traceOk_mem {l : List S45} (h : traceOk l = true) {x : S45} (hx : x ∈ l) : 0 ≤ x.f0 ∧ x.f0 ≤ 1 ∧ 0 ≤ x.f1 ∧ x.f1 ≤ 63 := by
  unfold traceOk at h
  rw [Bool.and_eq_true, List.all_eq_true] at h
  exact of_decide_eq_true (h.2 x hx)

/-! the words of a trace -/
def wordL (x : S45) (m : Nat) : List UInt8 := Go.Lib.itoa x.f1 ++ (if x.f0 = 1 then [119] else []) ++ (if 1 < m then 42 :: Go.Lib.itoa (m : Int) else [])
/-- How many lead that are like x. -/
def same (x : S45) : List S45 → Nat
  | [] => 0
  | y :: l => if ((y.f0 == x.f0) && (y.f1 == x.f1)) = true then same x l + 1 else 0
theorem same_le (x : S45) : ∀ (l : List S45), same x l ≤ l.length
  | [] => Nat.le_refl _
  | y :: l => by
    rw [same]
    have := same_le x l
    split
    · rw [List.length_cons]; omega
    · omega
/-- The words: n is at least the length. -/
def wds : Nat → List S45 → List (List UInt8)
  | 0, _ => []
  | _ + 1, [] => []
  | n + 1, x :: l => wordL x (same x l + 1) :: wds n (l.drop (same x l))
theorem wds_nil (n : Nat) : wds n [] = [] := by cases n <;> rfl
theorem wds_len : ∀ (n : Nat) (l : List S45), (wds n l).length ≤ l.length
  | 0, _ => by rw [wds]; simp
  | n + 1, [] => by rw [wds]; simp
  | n + 1, x :: l => by
    rw [wds, List.length_cons, List.length_cons]
    have := wds_len n (l.drop (same x l))
    rw [List.length_drop] at this
    omega
theorem wordL_len (x : S45) (m : Nat) (h1 : 0 ≤ x.f1 ∧ x.f1 ≤ 63) (hm : m ≤ 1000) : (wordL x m).length ≤ 24 := by
  unfold wordL
  have h2 := itoa_len (n := x.f1) (by omega) (by omega)
  have h3 := itoa_len (n := (m : Int)) (by omega) (by omega)
  rw [List.length_append, List.length_append]
  split <;> split <;> simp only [List.length_cons, List.length_nil] <;> omega
theorem wds_word : ∀ (n : Nat) (l : List S45), l.length ≤ 999 → (∀ x ∈ l, 0 ≤ x.f1 ∧ x.f1 ≤ 63) → ∀ w ∈ wds n l, w.length ≤ 24
  | 0, _, _, _, w, hw => by rw [wds] at hw; cases hw
  | n + 1, [], _, _, w, hw => by rw [wds] at hw; cases hw
  | n + 1, x :: l, hl, h, w, hw => by
    rw [wds] at hw
    rw [List.length_cons] at hl
    rcases List.mem_cons.1 hw with rfl | hw
    · have := same_le x l
      exact wordL_len x _ (h x (List.mem_cons_self ..)) (by omega)
    · exact wds_word n (l.drop (same x l)) (by rw [List.length_drop]; omega) (fun y hy => h y (List.mem_cons_of_mem _ (List.mem_of_mem_drop hy))) w hw
def mkB (l : List UInt8) : ByteArray := ⟨l.toArray⟩
def textT (t : List S45) : ByteArray := mkB (Go.Lib.join (wds t.length t) [32])

/-! the program's text of a trace -/
theorem ti_l1 (t : List S45) (ht : t.length ≤ 60) (P : List ByteArray) (i : Nat) (hi : i < t.length) {r : ByteArray} : ∀ (l : List S45) (j : Nat), t.drop j = l → j ≤ t.length → Ev (fun k => impl_traceText.j2 k t P (i : Int) ((j + same (t.getD i z45) l : Nat) : Int)) r → Ev (fun k => impl_traceText.l1 k t P (i : Int) (j : Int)) r
  | [], j, hd, hj, h => by
    have : j = t.length := by
      have := congrArg List.length hd
      rw [List.length_drop, List.length_nil] at this
      omega
    rw [same, Nat.add_zero] at h
    exact Ev.step (fun k => by rw [impl_traceText.l1, if_neg (by omega)]) h
  | y :: l, j, hd, hj, h => by
    have hl : j < t.length := by
      have := congrArg List.length hd
      rw [List.length_drop, List.length_cons] at this
      omega
    rw [gdrop z45 t j hl] at hd
    injection hd with h1 h2
    have e2 : wrap64 ((j : Int) + 1) = ((j + 1 : Nat) : Int) := by rw [wid (by omega) (by omega)]; omega
    rw [same] at h
    by_cases c : ((y.f0 == (t.getD i z45).f0) && (y.f1 == (t.getD i z45).f1)) = true
    · rw [if_pos c, show j + (same (t.getD i z45) l + 1) = (j + 1) + same (t.getD i z45) l by omega] at h
      refine Ev.step (fun k => ?_) (ti_l1 t ht P i hi l (j + 1) h2 (by omega) h)
      rw [impl_traceText.l1, if_pos (by omega), if_pos (by omega), if_pos (by omega), if_pos (by omega), rdA, rdA, h1, if_pos c, e2]
    · rw [if_neg c, Nat.add_zero] at h
      refine Ev.step (fun k => ?_) h
      rw [impl_traceText.l1, if_pos (by omega), if_pos (by omega), if_pos (by omega), if_pos (by omega), rdA, rdA, h1, if_neg c]
theorem ti_j2 (t : List S45) (ht : t.length ≤ 60) (P : List ByteArray) (i j : Nat) (hi : i < t.length) (hj : i < j) (hj2 : j ≤ 60) (hP : P.length ≤ 60) (x : S45) (hx : t.getD i z45 = x) (hb : 0 ≤ x.f1 ∧ x.f1 ≤ 63) {r : ByteArray} (h : Ev (fun k => impl_traceText.l0 k t (P ++ [mkB (wordL x (j - i))]) (j : Int)) r) :
    Ev (fun k => impl_traceText.j2 k t P (i : Int) (j : Int)) r := by
  refine Ev.step (fun k => ?_) h
  have hw : wrap64 ((j : Int) - (i : Int)) = ((j - i : Nat) : Int) := by rw [wid (by omega) (by omega)]; omega
  have s1 : (decT x.f1).size ≤ 11 := by rw [ba_size]; exact itoa_len (n := x.f1) (by omega) (by omega)
  have s2 : (decT ((j - i : Nat) : Int)).size ≤ 11 := by rw [ba_size]; exact itoa_len (n := ((j - i : Nat) : Int)) (by omega) (by omega)
  rw [impl_traceText.j2, if_pos (by omega), if_pos (by omega), rdA, hx, impl_dec _ (by omega) (by omega), Option.bind_some, hw]
  by_cases c : x.f0 = 1
  · rw [if_pos c, if_pos (by omega)]
    by_cases m : ((j - i : Nat) : Int) > 1
    · rw [if_pos m, impl_dec _ (by omega) (by omega), Option.bind_some, if_pos (by omega), if_pos (by rw [ByteArray.size_append, ByteArray.size_append]; show (decT x.f1).size + 1 + (1 + (decT ((j - i : Nat) : Int)).size) ≤ _; omega), if_pos (by omega)]
      have e : (decT x.f1 ++ (⟨#[119]⟩ : ByteArray)) ++ ((⟨#[42]⟩ : ByteArray) ++ decT ((j - i : Nat) : Int)) = mkB (wordL x (j - i)) := by
        apply ba_ext
        rw [ba_app, ba_app, ba_app]
        unfold wordL
        rw [if_pos c, if_pos (show 1 < j - i by omega)]
        rfl
      rw [e]
    · rw [if_neg m, if_pos (by omega)]
      have e : decT x.f1 ++ (⟨#[119]⟩ : ByteArray) = mkB (wordL x (j - i)) := by
        apply ba_ext
        rw [ba_app]
        unfold wordL
        rw [if_pos c, if_neg (show ¬ 1 < j - i by omega), List.append_nil]
        rfl
      rw [e]
  · rw [if_neg c]
    by_cases m : ((j - i : Nat) : Int) > 1
    · rw [if_pos m, impl_dec _ (by omega) (by omega), Option.bind_some, if_pos (by omega), if_pos (by rw [ByteArray.size_append]; show (decT x.f1).size + (1 + (decT ((j - i : Nat) : Int)).size) ≤ _; omega), if_pos (by omega)]
      have e : decT x.f1 ++ ((⟨#[42]⟩ : ByteArray) ++ decT ((j - i : Nat) : Int)) = mkB (wordL x (j - i)) := by
        apply ba_ext
        rw [ba_app, ba_app]
        unfold wordL
        rw [if_neg c, if_pos (show 1 < j - i by omega), List.append_nil]
        rfl
      rw [e]
    · rw [if_neg m, if_pos (by omega)]
      have e : decT x.f1 = mkB (wordL x (j - i)) := by
        apply ba_ext
        unfold wordL
        rw [if_neg c, if_neg (show ¬ 1 < j - i by omega), List.append_nil, List.append_nil]
        rfl
      rw [e]
theorem ti_l0 (t : List S45) (ht : t.length ≤ 60) (hv : ∀ x ∈ t, 0 ≤ x.f1 ∧ x.f1 ≤ 63) (n : Nat) : ∀ (i : Nat) (P : List (List UInt8)), t.length - i ≤ n → i ≤ t.length → P.length ≤ i → (∀ p ∈ P, p.length ≤ 24) →
    Ev (fun k => impl_traceText.l0 k t (P.map mkB) (i : Int)) (mkB (Go.Lib.join (P ++ wds n (t.drop i)) [32])) := by
  have fin : ∀ (i : Nat) (P : List (List UInt8)), i = t.length → P.length ≤ i → (∀ p ∈ P, p.length ≤ 24) → Ev (fun k => impl_traceText.l0 k t (P.map mkB) (i : Int)) (mkB (Go.Lib.join P [32])) := by
    intro i P hi hP hp
    refine ev_ret (fun k => ?_)
    have hj := join_len 24 P [32] (by simp) hp
    have e : (P.map mkB).map (fun x : ByteArray => x.data.toList) = P := by
      rw [List.map_map]
      exact List.map_id' P
    rw [impl_traceText.l0, if_neg (by omega)]
    unfold strings_Join.f
    rw [e, if_pos ⟨by rw [List.length_map]; omega, by show (Go.Lib.join P [32]).length ≤ _; omega⟩]
    rfl
  induction n with
  | zero =>
    intro i P hn hi hP hp
    rw [wds, List.append_nil]
    exact fin i P (by omega) hP hp
  | succ n ih =>
    intro i P hn hi hP hp
    by_cases c : i = t.length
    · rw [List.drop_eq_nil_of_le (by omega), wds, List.append_nil]
      exact fin i P c hP hp
    · have hl : i < t.length := by omega
      have hx := hv _ (gmem z45 t i hl)
      rw [gdrop z45 t i hl, wds]
      have hs := same_le (t.getD i z45) (t.drop (i + 1))
      rw [List.length_drop] at hs
      generalize hsv : same (t.getD i z45) (t.drop (i + 1)) = s at *
      have hd : (t.drop (i + 1)).drop s = t.drop (i + 1 + s) := by rw [List.drop_drop]
      rw [hd]
      have hw := wordL_len (t.getD i z45) (s + 1) hx (by omega)
      have h1 := ih (i + 1 + s) (P ++ [wordL (t.getD i z45) (s + 1)]) (by omega) (by omega) (by simp; omega) (fun p hp2 => by
        rcases List.mem_append.1 hp2 with h | h
        · exact hp p h
        · rw [List.mem_singleton] at h; rw [h]; exact hw)
      rw [List.append_assoc, List.singleton_append, List.map_append, List.map_cons, List.map_nil, show s + 1 = (i + 1 + s) - i by omega] at h1
      rw [show s + 1 = (i + 1 + s) - i by omega]
      have h2 := ti_j2 t ht (P.map mkB) i (i + 1 + s) hl (by omega) (by omega) (by simp; omega) _ rfl hx h1
      have h3 := ti_l1 t ht (P.map mkB) i hl (t.drop i) i rfl (by omega) (by
        rw [gdrop z45 t i hl, same, if_pos (by simp), hsv, show i + (s + 1) = i + 1 + s by omega]
        exact h2)
      refine Ev.step (fun k => ?_) h3
      rw [impl_traceText.l0, if_pos (by omega)]
theorem impl_textT (t : List S45) (h : traceOk t = true) : Ev (fun k => impl_traceText.f k t) (textT t) := by
  have := ti_l0 t (traceOk_len h) (fun x hx => (traceOk_mem h hx).2.2) t.length 0 [] (by omega) (by omega) (by simp) (fun p hp => by cases hp)
  exact this
def traceOut (t : List S45) : ByteArray × Bool := if traceOk t = true then (textT t, true) else (⟨#[]⟩, false)
theorem impl_TraceText (t : List S45) : Ev (fun k => impl_TraceText.f k t) (traceOut t) := by
  unfold impl_TraceText.f traceOut
  simp only [impl_trace, Option.bind_some]
  by_cases h : traceOk t = true
  · simp only [if_pos h]
    exact Ev.bind (impl_textT t h) (Ev.now _)
  · simp only [if_neg h]; exact Ev.now _

/-! the reference's numeral -/
theorem dec_l0 (n : Int) (hn : -9223372036854775808 ≤ n ∧ n ≤ 9223372036854775807) (hz : n ≠ 0) (u : Nat) : ∀ (o : ByteArray) (rest : Int), rest.natAbs = u → -9223372036854775808 ≤ rest ∧ rest ≤ 9223372036854775807 → u < 10 ^ (20 - o.size) → o.size ≤ 20 → (rest = 0 ∨ (n < 0 ↔ rest < 0)) →
    Ev (fun k => spec_l01Dec.l0 k n o rest) ⟨((if n < 0 then [45] else []) ++ (if u = 0 then [] else Go.Lib.decDigits u) ++ o.data.toList).toArray⟩ := by
  induction u using Nat.strongRecOn with
  | _ u ih =>
    intro o rest hu hr hpow ho2 hs
    by_cases c : rest = 0
    · subst c
      have hu0 : u = 0 := by simpa using hu.symm
      subst hu0
      refine ev_ret (fun k => ?_)
      rw [spec_l01Dec.l0, if_pos rfl, if_neg hz]
      by_cases g : n < 0
      · rw [if_pos g, if_pos (by omega), if_pos g]
        exact congrArg some (ba_ext (by rw [ba_app]; simp))
      · rw [if_neg g, if_neg g]
        exact congrArg some (ba_ext (by simp))
    · have hs2 : n < 0 ↔ rest < 0 := by rcases hs with h | h; exact absurd h c; exact h
      have hm := Int.mul_tdiv_add_tmod rest 10
      have hd : (Int.tdiv rest 10).natAbs = u / 10 := by rw [Int.natAbs_tdiv, hu]; rfl
      have hdig : (if Int.tmod rest 10 < 0 then -(Int.tmod rest 10) else Int.tmod rest 10) = ((u % 10 : Nat) : Int) := by
        have e : (Int.tmod rest 10).natAbs = u % 10 := by rw [Int.natAbs_tmod, hu]; rfl
        split <;> omega
      have hu1 : u ≠ 0 := by omega
      have hsg : Int.tdiv rest 10 = 0 ∨ (n < 0 ↔ Int.tdiv rest 10 < 0) := by
        by_cases z : Int.tdiv rest 10 = 0
        · exact Or.inl z
        · refine Or.inr ?_
          have := Int.tmod_lt_of_pos rest (show (0 : Int) < 10 by decide)
          have := Int.lt_tmod_of_pos rest (show (0 : Int) < 10 by decide)
          omega
      have hbd : -9223372036854775808 ≤ Int.tdiv rest 10 ∧ Int.tdiv rest 10 ≤ 9223372036854775807 := by omega
      have hsz : ((⟨#[UInt8.ofNat (48 + u % 10)]⟩ : ByteArray) ++ o).size = o.size + 1 := by rw [ByteArray.size_append]; show 1 + o.size = _; omega
      have hp2 : o.size < 20 := by
        by_cases q : o.size < 20
        · exact q
        · have : o.size = 20 := by omega
          rw [this] at hpow
          omega
      have hpow2 : u / 10 < 10 ^ (20 - (o.size + 1)) := by
        have e : 20 - o.size = (20 - (o.size + 1)) + 1 := by omega
        rw [e, Nat.pow_succ] at hpow
        omega
      have hx := ih (u / 10) (by omega) ((⟨#[UInt8.ofNat (48 + u % 10)]⟩ : ByteArray) ++ o) (Int.tdiv rest 10) hd hbd (by rw [hsz]; exact hpow2) (by rw [hsz]; omega) hsg
      have er : (if n < 0 then ([45] : List UInt8) else []) ++ (if u / 10 = 0 then [] else Go.Lib.decDigits (u / 10)) ++ ((⟨#[UInt8.ofNat (48 + u % 10)]⟩ : ByteArray) ++ o).data.toList = (if n < 0 then [45] else []) ++ (if u = 0 then [] else Go.Lib.decDigits u) ++ o.data.toList := by
        rw [ba_app, if_neg hu1]
        by_cases s : u < 10
        · rw [if_pos (show u / 10 = 0 by omega), Go.Lib.decDigits_one s, show u % 10 = u by omega]
          simp
        · rw [if_neg (show ¬ u / 10 = 0 by omega), dd_big s]
          simp
      rw [er] at hx
      refine Ev.step (fun k => ?_) hx
      rw [spec_l01Dec.l0, if_neg c]
      have hw : wrap64 (Int.tdiv rest 10) = Int.tdiv rest 10 := wid hbd.1 (by omega)
      have ht := Int.tmod_lt_of_pos rest (show (0 : Int) < 10 by decide)
      have ht2 := Int.lt_tmod_of_pos rest (show (0 : Int) < 10 by decide)
      have hg : ∀ x : Int, x = ((u % 10 : Nat) : Int) → strOfNums [(wrap64 (48 + x)) % 256] = ⟨#[UInt8.ofNat (48 + u % 10)]⟩ := by
        intro x hx
        have e : ((wrap64 (48 + x)) % 256).toNat = 48 + u % 10 := by rw [wid (by omega) (by omega)]; omega
        rw [str1, e]
      by_cases g : Int.tmod rest 10 < 0
      · rw [if_pos g] at hdig
        rw [if_pos g, Option.bind_some, wid (x := -(Int.tmod rest 10)) (by omega) (by omega), hg _ hdig, if_pos (by show 1 + o.size ≤ _; omega), hw]
      · rw [if_neg g] at hdig
        rw [if_neg g, Option.bind_some, hg _ hdig, if_pos (by show 1 + o.size ≤ _; omega), hw]
theorem dec_is (n : Int) (h0 : -9223372036854775808 ≤ n) (h1 : n ≤ 9223372036854775807) : Ev (fun k => spec_l01Dec.f k n) ⟨(Go.Lib.itoa n).toArray⟩ := by
  by_cases hz : n = 0
  · subst hz
    refine ev_ret (fun k => ?_)
    unfold spec_l01Dec.f
    rw [spec_l01Dec.l0, if_pos rfl, if_pos rfl]
    have : Go.Lib.itoa 0 = [48] := by unfold Go.Lib.itoa; rw [if_neg (by decide)]; exact Go.Lib.decDigits_one (by decide)
    rw [this]
  · have hx := dec_l0 n ⟨h0, h1⟩ hz n.natAbs ⟨#[]⟩ n rfl ⟨h0, h1⟩ (by show n.natAbs < 10 ^ 20; omega) (by show 0 ≤ 20; omega) (Or.inr Iff.rfl)
    have e : ((if n < 0 then ([45] : List UInt8) else []) ++ (if n.natAbs = 0 then [] else Go.Lib.decDigits n.natAbs) ++ (⟨#[]⟩ : ByteArray).data.toList) = Go.Lib.itoa n := by
      unfold Go.Lib.itoa
      rw [if_neg (show ¬ n.natAbs = 0 by omega)]
      by_cases g : n < 0
      · rw [if_pos g, if_pos g]; simp
      · rw [if_neg g, if_neg g, show n.natAbs = n.toNat by omega]; simp
    rw [e] at hx
    exact hx

/-! the reference's text of a trace -/
theorem ts_l1 (t : List S45) (ht : t.length ≤ 60) (O : ByteArray) (i : Nat) (hi : i < t.length) {r : ByteArray} : ∀ (l : List S45) (j : Nat), t.drop j = l → j ≤ t.length → Ev (fun k => spec_l02Text.j2 k t O (i : Int) ((j + same (t.getD i z45) l : Nat) : Int)) r → Ev (fun k => spec_l02Text.l1 k t O (i : Int) (j : Int)) r
  | [], j, hd, hj, h => by
    have : j = t.length := by
      have := congrArg List.length hd
      rw [List.length_drop, List.length_nil] at this
      omega
    rw [same, Nat.add_zero] at h
    exact Ev.step (fun k => by rw [spec_l02Text.l1, if_neg (by omega)]) h
  | y :: l, j, hd, hj, h => by
    have hl : j < t.length := by
      have := congrArg List.length hd
      rw [List.length_drop, List.length_cons] at this
      omega
    rw [gdrop z45 t j hl] at hd
    injection hd with h1 h2
    have e2 : wrap64 ((j : Int) + 1) = ((j + 1 : Nat) : Int) := by rw [wid (by omega) (by omega)]; omega
    rw [same] at h
    by_cases c : ((y.f0 == (t.getD i z45).f0) && (y.f1 == (t.getD i z45).f1)) = true
    · rw [if_pos c, show j + (same (t.getD i z45) l + 1) = (j + 1) + same (t.getD i z45) l by omega] at h
      refine Ev.step (fun k => ?_) (ts_l1 t ht O i hi l (j + 1) h2 (by omega) h)
      rw [spec_l02Text.l1, if_pos (by omega), if_pos (by omega), if_pos (by omega), if_pos (by omega), rdA, rdA, h1, if_pos c, e2]
    · rw [if_neg c, Nat.add_zero] at h
      refine Ev.step (fun k => ?_) h
      rw [spec_l02Text.l1, if_pos (by omega), if_pos (by omega), if_pos (by omega), if_pos (by omega), rdA, rdA, h1, if_neg c]
theorem ts_j3 (t : List S45) (ht : t.length ≤ 60) (O : ByteArray) (i j : Nat) (hi : i < t.length) (hj : i < j) (hj2 : j ≤ 60) (hO : O.size ≤ 10000) (x : S45) (hx : t.getD i z45 = x) (hb : 0 ≤ x.f1 ∧ x.f1 ≤ 63) {r : ByteArray} (h : Ev (fun k => spec_l02Text.l0 k t (O ++ mkB (wordL x (j - i))) (j : Int)) r) :
    Ev (fun k => spec_l02Text.j3 k t O (i : Int) (j : Int)) r := by
  have hw : wrap64 ((j : Int) - (i : Int)) = ((j - i : Nat) : Int) := by rw [wid (by omega) (by omega)]; omega
  have s1 : (decT x.f1).size ≤ 11 := by rw [ba_size]; exact itoa_len (n := x.f1) (by omega) (by omega)
  have s2 : (decT ((j - i : Nat) : Int)).size ≤ 11 := by rw [ba_size]; exact itoa_len (n := ((j - i : Nat) : Int)) (by omega) (by omega)
  have d1 := dec_is x.f1 (by omega) (by omega)
  have d2 := dec_is ((j - i : Nat) : Int) (by omega) (by omega)
  have z1 : (O ++ decT x.f1).size = O.size + (decT x.f1).size := ByteArray.size_append
  have z2 : ((O ++ decT x.f1) ++ (⟨#[119]⟩ : ByteArray)).size = O.size + (decT x.f1).size + 1 := by rw [ByteArray.size_append, z1]; rfl
  have z3 : ((⟨#[42]⟩ : ByteArray) ++ decT ((j - i : Nat) : Int)).size = 1 + (decT ((j - i : Nat) : Int)).size := ByteArray.size_append
  have g1 : (0 : Int) ≤ (i : Int) := by omega
  have g2 : (i : Int) < (t.length : Int) := by omega
  by_cases c : x.f0 = 1
  · by_cases m : ((j - i : Nat) : Int) > 1
    · have e : ((O ++ decT x.f1) ++ (⟨#[119]⟩ : ByteArray)) ++ ((⟨#[42]⟩ : ByteArray) ++ decT ((j - i : Nat) : Int)) = O ++ mkB (wordL x (j - i)) := by
        apply ba_ext
        rw [ba_app, ba_app, ba_app, ba_app, ba_app]
        unfold wordL
        rw [if_pos c, if_pos (show 1 < j - i by omega)]
        show _ = O.data.toList ++ (Go.Lib.itoa x.f1 ++ [119] ++ (42 :: Go.Lib.itoa ((j - i : Nat) : Int)))
        show O.data.toList ++ Go.Lib.itoa x.f1 ++ [119] ++ ([42] ++ Go.Lib.itoa ((j - i : Nat) : Int)) = _
        simp
      rw [← e] at h
      refine Ev.step (f := fun k => (spec_l01Dec.f k x.f1).bind fun t147 => (if O.size + t147.size ≤ 9223372036854775807 then (if (O ++ t147).size + 1 ≤ 9223372036854775807 then ((spec_l01Dec.f k ((j - i : Nat) : Int)).bind fun t149 => (if 1 + t149.size ≤ 9223372036854775807 then (if ((O ++ t147) ++ (⟨#[119]⟩ : ByteArray)).size + ((⟨#[42]⟩ : ByteArray) ++ t149).size ≤ 9223372036854775807 then (spec_l02Text.l0 k t (((O ++ t147) ++ (⟨#[119]⟩ : ByteArray)) ++ ((⟨#[42]⟩ : ByteArray) ++ t149)) (j : Int)) else none) else none)) else none) else none)) (fun k => ?_) (Ev.bind (a := decT x.f1) d1 ?_)
      · rw [spec_l02Text.j3, if_pos g1, if_pos g2, rdA, hx, hw]
        simp only [if_pos c, if_pos m]
      · simp only [if_pos (show O.size + (decT x.f1).size ≤ 9223372036854775807 by omega), if_pos (show (O ++ decT x.f1).size + 1 ≤ 9223372036854775807 by omega)]
        refine Ev.bind (a := decT ((j - i : Nat) : Int)) d2 ?_
        simp only [if_pos (show 1 + (decT ((j - i : Nat) : Int)).size ≤ 9223372036854775807 by omega), if_pos (show ((O ++ decT x.f1) ++ (⟨#[119]⟩ : ByteArray)).size + ((⟨#[42]⟩ : ByteArray) ++ decT ((j - i : Nat) : Int)).size ≤ 9223372036854775807 by omega)]
        exact h
    · have e : (O ++ decT x.f1) ++ (⟨#[119]⟩ : ByteArray) = O ++ mkB (wordL x (j - i)) := by
        apply ba_ext
        rw [ba_app, ba_app, ba_app]
        unfold wordL
        rw [if_pos c, if_neg (show ¬ 1 < j - i by omega), List.append_nil]
        show O.data.toList ++ Go.Lib.itoa x.f1 ++ [119] = O.data.toList ++ (Go.Lib.itoa x.f1 ++ [119])
        simp
      rw [← e] at h
      refine Ev.step (f := fun k => (spec_l01Dec.f k x.f1).bind fun t147 => (if O.size + t147.size ≤ 9223372036854775807 then (if (O ++ t147).size + 1 ≤ 9223372036854775807 then (spec_l02Text.l0 k t ((O ++ t147) ++ (⟨#[119]⟩ : ByteArray)) (j : Int)) else none) else none)) (fun k => ?_) (Ev.bind (a := decT x.f1) d1 ?_)
      · rw [spec_l02Text.j3, if_pos g1, if_pos g2, rdA, hx, hw]
        simp only [if_pos c, if_neg m]
      · simp only [if_pos (show O.size + (decT x.f1).size ≤ 9223372036854775807 by omega), if_pos (show (O ++ decT x.f1).size + 1 ≤ 9223372036854775807 by omega)]
        exact h
  · by_cases m : ((j - i : Nat) : Int) > 1
    · have e : (O ++ decT x.f1) ++ ((⟨#[42]⟩ : ByteArray) ++ decT ((j - i : Nat) : Int)) = O ++ mkB (wordL x (j - i)) := by
        apply ba_ext
        rw [ba_app, ba_app, ba_app, ba_app]
        unfold wordL
        rw [if_neg c, if_pos (show 1 < j - i by omega), List.append_nil]
        show O.data.toList ++ Go.Lib.itoa x.f1 ++ ([42] ++ Go.Lib.itoa ((j - i : Nat) : Int)) = O.data.toList ++ (Go.Lib.itoa x.f1 ++ (42 :: Go.Lib.itoa ((j - i : Nat) : Int)))
        simp
      rw [← e] at h
      refine Ev.step (f := fun k => (spec_l01Dec.f k x.f1).bind fun t147 => (if O.size + t147.size ≤ 9223372036854775807 then ((spec_l01Dec.f k ((j - i : Nat) : Int)).bind fun t150 => (if 1 + t150.size ≤ 9223372036854775807 then (if (O ++ t147).size + ((⟨#[42]⟩ : ByteArray) ++ t150).size ≤ 9223372036854775807 then (spec_l02Text.l0 k t ((O ++ t147) ++ ((⟨#[42]⟩ : ByteArray) ++ t150)) (j : Int)) else none) else none)) else none)) (fun k => ?_) (Ev.bind (a := decT x.f1) d1 ?_)
      · rw [spec_l02Text.j3, if_pos g1, if_pos g2, rdA, hx, hw]
        simp only [if_neg c, if_pos m]
      · simp only [if_pos (show O.size + (decT x.f1).size ≤ 9223372036854775807 by omega)]
        refine Ev.bind (a := decT ((j - i : Nat) : Int)) d2 ?_
        simp only [if_pos (show 1 + (decT ((j - i : Nat) : Int)).size ≤ 9223372036854775807 by omega), if_pos (show (O ++ decT x.f1).size + ((⟨#[42]⟩ : ByteArray) ++ decT ((j - i : Nat) : Int)).size ≤ 9223372036854775807 by omega)]
        exact h
    · have e : O ++ decT x.f1 = O ++ mkB (wordL x (j - i)) := by
        apply ba_ext
        rw [ba_app, ba_app]
        unfold wordL
        rw [if_neg c, if_neg (show ¬ 1 < j - i by omega), List.append_nil, List.append_nil]
        rfl
      rw [← e] at h
      refine Ev.step (f := fun k => (spec_l01Dec.f k x.f1).bind fun t147 => (if O.size + t147.size ≤ 9223372036854775807 then (spec_l02Text.l0 k t (O ++ t147) (j : Int)) else none)) (fun k => ?_) (Ev.bind (a := decT x.f1) d1 ?_)
      · rw [spec_l02Text.j3, if_pos g1, if_pos g2, rdA, hx, hw]
        simp only [if_neg c, if_neg m]
      · simp only [if_pos (show O.size + (decT x.f1).size ≤ 9223372036854775807 by omega)]
        exact h
theorem ts_l0 (t : List S45) (ht : t.length ≤ 60) (hv : ∀ x ∈ t, 0 ≤ x.f1 ∧ x.f1 ≤ 63) (n : Nat) : ∀ (i : Nat) (P : List (List UInt8)), t.length - i ≤ n → i ≤ t.length → P.length ≤ i → (i = 0 ↔ P = []) → (∀ p ∈ P, p.length ≤ 24) →
    Ev (fun k => spec_l02Text.l0 k t (mkB (Go.Lib.join P [32])) (i : Int)) (mkB (Go.Lib.join (P ++ wds n (t.drop i)) [32])) := by
  induction n with
  | zero =>
    intro i P hn hi hP h0 hp
    rw [wds, List.append_nil]
    exact ev_ret (fun k => by rw [spec_l02Text.l0, if_neg (by omega)])
  | succ n ih =>
    intro i P hn hi hP h0 hp
    by_cases c : i = t.length
    · rw [List.drop_eq_nil_of_le (by omega), wds, List.append_nil]
      exact ev_ret (fun k => by rw [spec_l02Text.l0, if_neg (by omega)])
    · have hl : i < t.length := by omega
      have hx := hv _ (gmem z45 t i hl)
      rw [gdrop z45 t i hl, wds]
      have hs := same_le (t.getD i z45) (t.drop (i + 1))
      rw [List.length_drop] at hs
      generalize hsv : same (t.getD i z45) (t.drop (i + 1)) = s at *
      have hd : (t.drop (i + 1)).drop s = t.drop (i + 1 + s) := by rw [List.drop_drop]
      rw [hd]
      have hw := wordL_len (t.getD i z45) (s + 1) hx (by omega)
      have h1 := ih (i + 1 + s) (P ++ [wordL (t.getD i z45) (s + 1)]) (by omega) (by omega) (by simp; omega) ⟨fun h => by omega, fun h => by simp at h⟩ (fun p hp2 => by
        rcases List.mem_append.1 hp2 with h | h
        · exact hp p h
        · rw [List.mem_singleton] at h; rw [h]; exact hw)
      rw [List.append_assoc, List.singleton_append, show s + 1 = (i + 1 + s) - i by omega] at h1
      rw [show s + 1 = (i + 1 + s) - i by omega]
      have hj := join_len 24 P [32] (by simp) hp
      have hjs : (mkB (Go.Lib.join P [32])).size ≤ 1500 := by rw [ba_size]; show (Go.Lib.join P [32]).length ≤ _; omega
      have h2 : Ev (fun k => spec_l02Text.j2 k t (mkB (Go.Lib.join P [32])) (i : Int) ((i + 1 + s : Nat) : Int)) (mkB (Go.Lib.join (P ++ wordL (t.getD i z45) (i + 1 + s - i) :: wds n (t.drop (i + 1 + s))) [32])) := by
        by_cases z : i = 0
        · have hP0 := h0.1 z
          have e : mkB (Go.Lib.join (P ++ [wordL (t.getD i z45) (i + 1 + s - i)]) [32]) = mkB (Go.Lib.join P [32]) ++ mkB (wordL (t.getD i z45) (i + 1 + s - i)) := by
            apply ba_ext
            rw [ba_app, hP0, List.nil_append]
            show Go.Lib.join [_] [32] = Go.Lib.join [] [32] ++ _
            rw [Go.Lib.join_one, Go.Lib.join_nil, List.nil_append]
            rfl
          rw [e] at h1
          have h3 := ts_j3 t ht (mkB (Go.Lib.join P [32])) i (i + 1 + s) hl (by omega) (by omega) (by omega) _ rfl hx h1
          exact Ev.step (fun k => by rw [spec_l02Text.j2, if_neg (by omega)]) h3
        · have hP0 : P ≠ [] := fun h => z (h0.2 h)
          have e : mkB (Go.Lib.join (P ++ [wordL (t.getD i z45) (i + 1 + s - i)]) [32]) = (mkB (Go.Lib.join P [32]) ++ (⟨#[32]⟩ : ByteArray)) ++ mkB (wordL (t.getD i z45) (i + 1 + s - i)) := by
            apply ba_ext
            rw [ba_app, ba_app]
            show Go.Lib.join (P ++ [_]) [32] = _
            rw [join_snoc _ hP0]
            rfl
          rw [e] at h1
          have zs : (mkB (Go.Lib.join P [32]) ++ (⟨#[32]⟩ : ByteArray)).size = (mkB (Go.Lib.join P [32])).size + 1 := ByteArray.size_append
          have h3 := ts_j3 t ht (mkB (Go.Lib.join P [32]) ++ (⟨#[32]⟩ : ByteArray)) i (i + 1 + s) hl (by omega) (by omega) (by omega) _ rfl hx h1
          exact Ev.step (fun k => by rw [spec_l02Text.j2, if_pos (by omega), if_pos (by omega)]) h3
      have h3 := ts_l1 t ht (mkB (Go.Lib.join P [32])) i hl (t.drop i) i rfl (by omega) (by
        rw [gdrop z45 t i hl, same, if_pos (by simp), hsv, show i + (s + 1) = i + 1 + s by omega]
        exact h2)
      refine Ev.step (fun k => ?_) h3
      rw [spec_l02Text.l0, if_pos (by omega)]
theorem spec_textT (t : List S45) (h : traceOk t = true) : Ev (fun k => spec_l02Text.f k t) (textT t) :=
  ts_l0 t (traceOk_len h) (fun x hx => (traceOk_mem h hx).2.2) t.length 0 [] (by omega) (by omega) (by simp) ⟨fun _ => rfl, fun _ => rfl⟩ (fun p hp => by cases hp)

theorem spec_acc (x : S45) : ((spec_l02Kind.f x.f0).bind fun t => if t = true then (spec_l02Address.f x.f1).bind fun u => some u else some false) = some (accOk x) := by
  unfold spec_l02Kind.f spec_l02Address.f spec_l00In.f accOk
  by_cases h0 : x.f0 = 0
  · by_cases h1 : 0 ≤ x.f1 <;> by_cases h2 : x.f1 ≤ 63 <;> simp [h0, h1, h2]
  · by_cases h3 : x.f0 = 1
    · by_cases h1 : 0 ≤ x.f1 <;> by_cases h2 : x.f1 ≤ 63 <;> simp [h3, h1, h2]
    · have : ¬ (0 ≤ x.f0 ∧ x.f0 ≤ 1 ∧ 0 ≤ x.f1 ∧ x.f1 ≤ 63) := by omega
      simp [h0, h3, this]
theorem spec_trace_l (l : List S45) (hl : l.length ≤ 140737488355328) (d : Nat) : ∀ (i : Nat), l.length - i = d → i ≤ l.length → Ev (fun k => spec_l02Is.l0 k l (i : Int)) (decide (l.length ≤ 60) && (l.drop i).all accOk) := by
  induction d with
  | zero =>
    intro i hd hi
    rw [List.drop_eq_nil_of_le (by omega), List.all_nil, Bool.and_true]
    refine ev_ret (fun k => ?_)
    rw [spec_l02Is.l0, if_neg (by omega)]
    by_cases h : l.length ≤ 60
    · rw [decide_eq_true h, decide_eq_true (by omega)]
    · rw [decide_eq_false h, decide_eq_false (by omega)]
  | succ d ih =>
    intro i hd hi
    rw [gdrop z45 l i (by omega), List.all_cons]
    have ha := spec_acc (l.getD i z45)
    have e1 := ih (i + 1) (by omega) (by omega)
    rw [show ((i + 1 : Nat) : Int) = (i : Int) + 1 by omega] at e1
    obtain ⟨b1, hb1⟩ : ∃ b, spec_l02Kind.f (l.getD i z45).f0 = some b := by unfold spec_l02Kind.f; split <;> exact ⟨_, rfl⟩
    obtain ⟨b2, hb2⟩ : ∃ b, spec_l02Address.f (l.getD i z45).f1 = some b := by unfold spec_l02Address.f spec_l00In.f; split <;> exact ⟨_, rfl⟩
    rw [hb1, hb2] at ha
    cases b1 with
    | false =>
      have ha2 : accOk (l.getD i z45) = false := by simpa using ha.symm
      rw [ha2, Bool.false_and, Bool.and_false]
      exact ev_ret (fun k => by rw [spec_l02Is.l0, if_pos (by omega), if_pos (by omega), rdA, hb1, Option.bind_some, if_neg (by decide)])
    | true =>
      cases b2 with
      | false =>
        have ha2 : accOk (l.getD i z45) = false := by simpa using ha.symm
        rw [ha2, Bool.false_and, Bool.and_false]
        exact ev_ret (fun k => by rw [spec_l02Is.l0, if_pos (by omega), if_pos (by omega), rdA, hb1, Option.bind_some, if_pos rfl, hb2, Option.bind_some, if_neg (by decide)])
      | true =>
        have ha2 : accOk (l.getD i z45) = true := by simpa using ha.symm
        rw [ha2, Bool.true_and]
        refine Ev.step (fun k => ?_) e1
        rw [spec_l02Is.l0, if_pos (by omega), if_pos (by omega), rdA, hb1, Option.bind_some, if_pos rfl, hb2, Option.bind_some, if_pos rfl, wid (x := (i : Int) + 1) (by omega) (by omega)]
theorem spec_trace (l : List S45) (hl : l.length ≤ 140737488355328) : Ev (fun k => spec_l02Is.f k l) (traceOk l) := spec_trace_l l hl l.length 0 (by omega) (by omega)

/-! accesses -/
theorem rdL (xs : List S88) (i : Nat) : rd_T88 xs (i : Int) = xs.getD i z88 := by unfold rd_T88; rw [Int.toNat_natCast]
/-- A law's access as the program has it. -/
def conv (x : S88) : S45 := ⟨x.f0, x.f1⟩
theorem toAcc_l (l : List S88) (hl : l.length ≤ 17592186044416) (d : Nat) : ∀ (i : Nat) (xs : List S45), xs.length = l.length → (∀ j, j < i → xs.getD j z45 = (l.map conv).getD j z45) → l.length - i = d → i ≤ l.length →
    Ev (fun k => laws_toAccessS.l0 k l xs (i : Int)) (l.map conv) := by
  induction d with
  | zero =>
    intro i xs hx h hd hi
    have e : xs = l.map conv := gext z45 (by rw [hx, List.length_map]) (fun j hj => h j (by omega))
    rw [← e]
    exact ev_ret (fun k => by rw [laws_toAccessS.l0, if_neg (by omega)])
  | succ d ih =>
    intro i xs hx h hd hi
    refine Ev.step (fun k => ?_) (ih (i + 1) (xs.set i (conv (l.getD i z88))) (by rw [List.length_set, hx]) (fun j hj => ?_) (by omega) (by omega))
    · rw [laws_toAccessS.l0, if_pos (by omega), if_pos (by omega)]
      unfold laws_toAccess.f
      rw [Option.bind_some, if_pos (by omega), Int.toNat_natCast, rdL, wid (x := (i : Int) + 1) (by omega) (by omega), show ((i + 1 : Nat) : Int) = (i : Int) + 1 by omega]
      rfl
    · rw [gset _ _ _ _ _ (by omega)]
      by_cases e : i = j
      · subst e; rw [if_pos rfl, gmap z88 z45 conv l i (by omega)]
      · rw [if_neg e]; exact h j (by omega)
theorem toAcc (l : List S88) (hl : l.length ≤ 17592186044416) : Ev (fun k => laws_toAccessS.f k l) (l.map conv) := by
  unfold laws_toAccessS.f
  simp only [if_pos (show (0 : Int) ≤ (l.length : Int) by omega), Int.toNat_natCast, if_pos hl]
  exact toAcc_l l hl l.length 0 _ (by rw [List.length_replicate]) (fun j hj => by omega) (by omega) (by omega)

theorem eqA_l (a : List S45) (ha : a.length ≤ 140737488355328) (d : Nat) : ∀ (i : Int), 0 ≤ i → (a.length : Int) - i = d → Ev (fun k => laws_eqAccessS.l0 k a a i) true := by
  induction d with
  | zero => intro i h0 hd; exact ev_ret (fun k => by rw [laws_eqAccessS.l0, if_neg (by omega)])
  | succ d ih =>
    intro i h0 hd
    refine Ev.step (fun k => ?_) (ih (i + 1) (by omega) (by omega))
    rw [laws_eqAccessS.l0, if_pos (by omega), if_pos h0, if_pos (by omega)]
    unfold laws_eqAccess.f
    rw [if_pos rfl, if_pos rfl, Option.bind_some, if_pos rfl, wid (x := i + 1) (by omega) (by omega)]
theorem eqA (a : List S45) (ha : a.length ≤ 140737488355328) : Ev (fun k => laws_eqAccessS.f k a a) true := by
  unfold laws_eqAccessS.f
  simp only [if_true]
  exact eqA_l a ha a.length 0 (by omega) (by omega)

theorem szA (l : List S88) (n : Int) (h0 : 0 ≤ n) (hn : n ≤ 1048576) (hl : l.length ≤ 9223372036854775807) : laws_szAccessS.f l n = some (if n < (l.length : Int) then -1 else n - (l.length : Int)) := by
  unfold laws_szAccessS.f
  rw [wid (by omega) (by omega)]
  by_cases h : n < (l.length : Int)
  · rw [if_pos (by omega), if_pos h]
  · rw [if_neg (by omega), if_neg h]

theorem spec_TraceText (t : List S45) (hl : t.length ≤ 140737488355328) : Ev (fun k => spec_TraceText.f k t) (traceOut t) := by
  unfold spec_TraceText.f traceOut
  refine Ev.bind (spec_trace t hl) ?_
  by_cases h : traceOk t = true
  · simp only [if_pos h]
    exact Ev.bind (spec_textT t h) (Ev.now _)
  · simp only [if_neg h]; exact Ev.now _
theorem FnExactTraceText : laws_FnExactTraceText.Pure := by
  intro l hl
  refine Ev.rounds (r := true) ?_
  unfold laws_FnExactTraceText.f
  rw [szA l 1048576 (by omega) (by omega) hl.1]
  simp only [Option.bind_some]
  by_cases hb : 1048576 < (l.length : Int)
  · simp only [if_pos hb]; exact Ev.now _
  simp only [if_neg hb, if_neg (show ¬ (1048576 - (l.length : Int)) < 0 by omega)]
  have et := toAcc l (by omega)
  have hm : (l.map conv).length ≤ 140737488355328 := by rw [List.length_map]; omega
  refine Ev.bind et (Ev.bind (spec_TraceText _ hm) (Ev.bind et (Ev.bind (impl_TraceText _) ?_)))
  simp only [if_true, bne_self_eq_false]
  refine Ev.step (fun k => by rw [laws_FnExactTraceText.j0, if_neg (by decide)]) ?_
  refine Ev.bind et (Ev.bind (eqA _ hm) (ev_all fun k => ?_))
  rw [if_pos rfl]

end Go.Proofs.YtbfcnacllonnbaaDoor.Pure
