/- The program's ListText returns what the reference's returns, for every list. Conditions: those of the card alone. -/
import Derived.Test.YtbfcnacllonnbaaDoorPFnExactListTexty
namespace Go.Proofs.YtbfcnacllonnbaaDoor.Pure
open Go.RowKit Go.Proofs.YtbfcnacllonnbaaDoor.PFnExactListText Go.Proofs.YtbfcnacllonnbaaDoorW.PrintWords Go.Proofs.YtbfcnacllonnbaaDoorW.PrintLast Go.Proofs.YtbfcnacllonnbaaDoorW.PrintMore
set_option linter.unusedVariables false
set_option linter.unusedSimpArgs false

theorem wid {x : Int} (h1 : -9223372036854775808 ≤ x) (h2 : x < 9223372036854775808) : wrap64 x = x := by unfold wrap64; omega
theorem i64_bd {x : Int} (h : (Lit.int .i64 x).wf = true) : -9223372036854775808 ≤ x ∧ x ≤ 9223372036854775807 := by
  simp only [Lit.wf, IntKind.min, IntKind.max, IntKind.signed, IntKind.bits, Bool.and_eq_true, decide_eq_true_eq, if_true] at h
  omega
/-- A loop's step, its answer known at once. -/
theorem ev_ret {α : Type} {g : Nat → Option α} {r : α} (h : ∀ k, g (k + 1) = some r) : Ev g r := Ev.step (f := fun _ => some r) h (Ev.now r)
theorem ev_all {α : Type} {g : Nat → Option α} {r : α} (h : ∀ k, g k = some r) : Ev g r := ⟨0, fun k _ => h k⟩

/-! the decimal numeral -/
theorem dd_big {u : Nat} (h : ¬ u < 10) : Go.Lib.decDigits u = Go.Lib.decDigits (u / 10) ++ [UInt8.ofNat (48 + u % 10)] := by rw [Go.Lib.decDigits, dif_neg h]
theorem dd_ind {p : Nat → Prop} (h1 : ∀ u, u < 10 → p u) (h2 : ∀ u, ¬ u < 10 → p (u / 10) → p u) (u : Nat) : p u := by
  induction u using Nat.strongRecOn with
  | _ u ih =>
    by_cases h : u < 10
    · exact h1 u h
    · exact h2 u h (ih (u / 10) (by omega))
theorem dg_nat {d : Nat} (h : d < 10) : (UInt8.ofNat (48 + d)).toNat = 48 + d := by
  have e : (UInt8.ofNat (48 + d)).toNat = (48 + d) % 256 := rfl
  rw [e]; omega
theorem dd_ne (u : Nat) : Go.Lib.decDigits u ≠ [] := by
  refine dd_ind (p := fun u => Go.Lib.decDigits u ≠ []) (fun u h => ?_) (fun u h _ => ?_) u
  · rw [Go.Lib.decDigits_one h]; simp
  · rw [dd_big h]; simp
theorem dd_dig (u : Nat) : ∀ c ∈ Go.Lib.decDigits u, 48 ≤ c.toNat ∧ c.toNat ≤ 57 := by
  refine dd_ind (p := fun u => ∀ c ∈ Go.Lib.decDigits u, 48 ≤ c.toNat ∧ c.toNat ≤ 57) (fun u h c hc => ?_) (fun u h ih c hc => ?_) u
  · rw [Go.Lib.decDigits_one h, List.mem_singleton] at hc
    rw [hc, dg_nat h]; omega
  · rw [dd_big h, List.mem_append, List.mem_singleton] at hc
    rcases hc with hc | hc
    · exact ih c hc
    · rw [hc, dg_nat (by omega)]; omega
def vl (a : Nat) (l : List UInt8) : Nat := l.foldl (fun a c => a * 10 + (c.toNat - 48)) a
theorem vl_cons (a : Nat) (c : UInt8) (l : List UInt8) : vl a (c :: l) = vl (a * 10 + (c.toNat - 48)) l := by unfold vl; rw [List.foldl_cons]
theorem vl_app (a : Nat) (l : List UInt8) (c : UInt8) : vl a (l ++ [c]) = vl a l * 10 + (c.toNat - 48) := by unfold vl; rw [List.foldl_append]; rfl
theorem vl_dd (u : Nat) : vl 0 (Go.Lib.decDigits u) = u := by
  refine dd_ind (p := fun u => vl 0 (Go.Lib.decDigits u) = u) (fun u h => ?_) (fun u h ih => ?_) u
  · rw [Go.Lib.decDigits_one h, vl_cons, dg_nat h]
    show 0 * 10 + (48 + u - 48) = u
    omega
  · rw [dd_big h, vl_app, ih, dg_nat (by omega)]; omega
theorem vl_ge : ∀ (l : List UInt8) (a : Nat), a ≤ vl a l
  | [], a => Nat.le_refl _
  | c :: l, a => by have := vl_ge l (a * 10 + (c.toNat - 48)); rw [vl_cons]; omega
theorem pu_ok : ∀ (l : List UInt8) (acc : Nat), (∀ c ∈ l, 48 ≤ c.toNat ∧ c.toNat ≤ 57) → vl acc l ≤ 1000000000000000000 → Go.Lib.parseUintM (2 ^ 64 - 1) acc l = .ok (vl acc l)
  | [], acc, _, _ => rfl
  | c :: l, acc, h, hv => by
    have hc := h c (List.mem_cons_self ..)
    have hg := vl_ge l (acc * 10 + (c.toNat - 48))
    rw [vl_cons] at hv
    rw [Go.Lib.parseUintM, if_pos hc, if_neg (by omega), if_neg (by omega), vl_cons]
    exact pu_ok l _ (fun c hc => h c (List.mem_cons_of_mem _ hc)) hv
theorem dd_len {u k : Nat} (h : u < 10 ^ (k + 1)) : (Go.Lib.decDigits u).length ≤ k + 1 := by
  induction k generalizing u with
  | zero => rw [Go.Lib.decDigits_one (by simpa using h)]; simp
  | succ k ih =>
    by_cases c : u < 10
    · rw [Go.Lib.decDigits_one c]; simp
    · rw [dd_big c, List.length_append, List.length_singleton]
      have := ih (u := u / 10) (by rw [Nat.pow_succ] at h; omega)
      omega
theorem itoa_len {n : Int} (h1 : -1000000000 ≤ n) (h2 : n ≤ 1000000000) : (Go.Lib.itoa n).length ≤ 11 := by
  unfold Go.Lib.itoa
  split
  · rw [List.length_cons]
    have := dd_len (u := n.natAbs) (k := 9) (by omega)
    omega
  · have := dd_len (u := n.toNat) (k := 9) (by omega)
    omega
theorem itoa_ne (n : Int) : Go.Lib.itoa n ≠ [] := by
  unfold Go.Lib.itoa
  split
  · simp
  · exact dd_ne _
/-- The numeral is read back. -/
theorem parse_itoa {n : Int} (h1 : -1000000000 ≤ n) (h2 : n ≤ 1000000000) : Go.Lib.parseIntB 64 (Go.Lib.itoa n) = .ok n := by
  unfold Go.Lib.itoa
  by_cases c : n < 0
  · rw [if_pos c]
    have e := pu_ok (Go.Lib.decDigits n.natAbs) 0 (dd_dig _) (by rw [vl_dd]; omega)
    rw [vl_dd] at e
    have e2 : Go.Lib.parseUintB 64 (Go.Lib.decDigits n.natAbs) = .ok n.natAbs := by unfold Go.Lib.parseUintB; rw [if_neg (dd_ne _)]; exact e
    unfold Go.Lib.parseIntB
    simp only [show ((45 : UInt8).toNat = 43 ∨ (45 : UInt8).toNat = 45) from Or.inr rfl, if_true, e2]
    rw [if_neg (by rintro ⟨h, -⟩; exact h rfl), if_neg (by rintro ⟨-, h⟩; simp at h; omega), if_pos (show (45 : UInt8).toNat = 45 from rfl)]
    congr 1
    omega
  · rw [if_neg c]
    have e := pu_ok (Go.Lib.decDigits n.toNat) 0 (dd_dig _) (by rw [vl_dd]; omega)
    rw [vl_dd] at e
    have e2 : Go.Lib.parseUintB 64 (Go.Lib.decDigits n.toNat) = .ok n.toNat := by unfold Go.Lib.parseUintB; rw [if_neg (dd_ne _)]; exact e
    have hd := dd_dig n.toNat
    generalize Go.Lib.decDigits n.toNat = l at e2 hd
    cases l with
    | nil => exact absurd e2 (by unfold Go.Lib.parseUintB; rw [if_pos rfl]; simp)
    | cons x l =>
      have hx := hd x (List.mem_cons_self ..)
      unfold Go.Lib.parseIntB
      simp only [show ¬ (x.toNat = 43 ∨ x.toNat = 45) by omega, if_false, e2]
      rw [if_neg (by rintro ⟨-, h⟩; simp at h; omega), if_neg (by rintro ⟨h, -⟩; omega), if_neg (by omega)]
      congr 1
      omega
theorem itoa_inj {n m : Int} (h1 : -1000000000 ≤ n) (h2 : n ≤ 1000000000) (h3 : -1000000000 ≤ m) (h4 : m ≤ 1000000000) (h : Go.Lib.itoa n = Go.Lib.itoa m) : n = m := by
  have a := parse_itoa h1 h2
  rw [h, parse_itoa h3 h4] at a
  injection a with a
  exact a.symm
theorem ba_ext {a b : ByteArray} (h : a.data.toList = b.data.toList) : a = b := by
  cases a with | mk x => cases b with | mk y => exact congrArg ByteArray.mk (Array.toList_inj.1 h)
theorem ba_list (l : List UInt8) : (⟨l.toArray⟩ : ByteArray).data.toList = l := rfl
theorem ba_mk (s : ByteArray) : (⟨s.data.toList.toArray⟩ : ByteArray) = s := ba_ext rfl
theorem ba_size (s : ByteArray) : s.size = s.data.toList.length := by rw [Array.length_toList]; rfl
theorem bt_list (s : ByteArray) (i : Nat) (h : i < s.data.toList.length) : bt s (i : Int) = ((s.data.toList[i]'h).toNat : Int) := by
  have h' : i < s.size := by rw [ba_size]; exact h
  unfold bt
  rw [dif_pos (by rw [Int.toNat_natCast]; exact h')]
  simp only [Int.toNat_natCast, Array.getElem_toList]
  rfl
theorem bt_cons (s : ByteArray) (i : Nat) (c : UInt8) (l : List UInt8) (h : s.data.toList.drop i = c :: l) : i < s.size ∧ bt s (i : Int) = (c.toNat : Int) ∧ s.data.toList.drop (i + 1) = l := by
  have hl : i < s.data.toList.length := by
    have := congrArg List.length h
    rw [List.length_drop, List.length_cons] at this
    omega
  rw [List.drop_eq_getElem_cons hl] at h
  injection h with h1 h2
  refine ⟨by rw [ba_size]; exact hl, ?_, h2⟩
  rw [bt_list s i hl, h1]

/-! texts joined -/
theorem join_snoc (xs : List (List UInt8)) (h : xs ≠ []) (y s : List UInt8) : Go.Lib.join (xs ++ [y]) s = Go.Lib.join xs s ++ s ++ y := by
  cases xs with
  | nil => exact absurd rfl h
  | cons x r =>
    rw [List.cons_append, Go.Lib.join_cons, Go.Lib.join_cons]
    unfold Go.Lib.joinTail
    rw [List.map_append, List.flatten_append]
    simp
theorem join_len (c : Nat) : ∀ (xs : List (List UInt8)) (s : List UInt8), s.length ≤ 1 → (∀ x ∈ xs, x.length ≤ c) → (Go.Lib.join xs s).length ≤ (c + 1) * xs.length
  | [], s, _, _ => by rw [Go.Lib.join_nil]; simp
  | x :: r, s, hs, h => by
    rw [Go.Lib.join_cons, List.length_append, Go.Lib.joinTail_length]
    have hx := h x (List.mem_cons_self ..)
    have hl : ∀ (r : List (List UInt8)), (∀ x ∈ r, x.length ≤ c) → Go.Lib.lens r ≤ c * r.length := by
      intro r
      induction r with
      | nil => intro _; simp [Go.Lib.lens]
      | cons a r ih =>
        intro h
        have h1 := ih (fun x hx => h x (List.mem_cons_of_mem _ hx))
        have h2 := h a (List.mem_cons_self ..)
        unfold Go.Lib.lens at h1 ⊢
        rw [List.map_cons, List.sum_cons, List.length_cons, Nat.mul_succ]
        omega
    have h1 := hl r (fun x hx => h x (List.mem_cons_of_mem _ hx))
    have h2 : s.length * r.length ≤ 1 * r.length := Nat.mul_le_mul_right _ hs
    rw [List.length_cons, Nat.mul_succ, Nat.add_mul]
    omega
theorem join_ne (x : List UInt8) (r : List (List UInt8)) (s : List UInt8) (h : x ≠ []) : Go.Lib.join (x :: r) s ≠ [] := by
  rw [Go.Lib.join_cons]
  cases x with
  | nil => exact absurd rfl h
  | cons a x => simp

/-! texts and their bytes; the numeral's text -/
theorem str1 (x : Int) : strOfNums [x] = ⟨#[UInt8.ofNat x.toNat]⟩ := rfl
theorem ba_app (a b : ByteArray) : (a ++ b).data.toList = a.data.toList ++ b.data.toList := by
  rw [ByteArray.data_append, Array.toList_append]
theorem ba_len (a : ByteArray) : a.size = a.data.toList.length := ba_size a
/-- The numeral's text. -/
def decT (n : Int) : ByteArray := ⟨(Go.Lib.itoa n).toArray⟩

theorem impl_dec (n : Int) (h0 : -9223372036854775808 ≤ n) (h1 : n ≤ 9223372036854775807) : impl_Decimal.f n = some (decT n) := by unfold impl_Decimal.f; rw [if_pos ⟨h0, h1⟩]; rfl

theorem getD_set (xs : List Int) (i j : Nat) (v : Int) (hi : i < xs.length) : (xs.set i v).getD j 0 = if i = j then v else xs.getD j 0 := by
  rw [List.getD_eq_getElem?_getD, List.getElem?_set]
  by_cases e : i = j
  · subst e; rw [if_pos rfl, if_pos hi, if_pos rfl]; rfl
  · rw [if_neg e, if_neg e, List.getD_eq_getElem?_getD]
theorem ext_getD {xs ys : List Int} (h : xs.length = ys.length) (he : ∀ j, j < xs.length → xs.getD j 0 = ys.getD j 0) : xs = ys := by
  apply List.ext_getElem h
  intro j h1 h2
  have := he j h1
  rwa [List.getD_eq_getElem?_getD, List.getD_eq_getElem?_getD, List.getElem?_eq_getElem h1, List.getElem?_eq_getElem h2] at this
theorem rd_nat (xs : List Int) (i : Nat) : rd xs (i : Int) = xs.getD i 0 := by unfold rd; rw [Int.toNat_natCast]
theorem rd_mem (xs : List Int) (i : Nat) (h : i < xs.length) : rd xs (i : Int) ∈ xs := by
  rw [rd_nat, List.getD_eq_getElem?_getD, List.getElem?_eq_getElem h]
  exact List.getElem_mem _
theorem take_snoc (xs : List Int) (i : Nat) (h : i < xs.length) : xs.take (i + 1) = xs.take i ++ [rd xs (i : Int)] := by
  rw [List.take_succ_eq_append_getElem h, rd_nat, List.getD_eq_getElem?_getD, List.getElem?_eq_getElem h]
  rfl
theorem drop_cons (xs : List Int) (i : Nat) (h : i < xs.length) : xs.drop i = rd xs (i : Int) :: xs.drop (i + 1) := by
  rw [List.drop_eq_getElem_cons h, rd_nat, List.getD_eq_getElem?_getD, List.getElem?_eq_getElem h]
  rfl

/-! the text of a list -/
def listT (l : List Int) : ByteArray := if l = [] then ⟨#[110, 111, 110, 101]⟩ else ⟨(Go.Lib.join (l.map Go.Lib.itoa) [32]).toArray⟩
theorem listT_len (l : List Int) (hb : ∀ x ∈ l, -1000000000 ≤ x ∧ x ≤ 1000000000) (hl : l.length ≤ 80) : (Go.Lib.join (l.map Go.Lib.itoa) [32]).length ≤ 960 := by
  have h := join_len 11 (l.map Go.Lib.itoa) [32] (by simp) (fun x hx => by
    obtain ⟨y, hy, rfl⟩ := List.mem_map.1 hx
    have := hb y hy
    exact itoa_len this.1 this.2)
  rw [List.length_map] at h
  omega
theorem impl_listText_l (l : List Int) (hb : ∀ x ∈ l, -1000000000 ≤ x ∧ x ≤ 1000000000) (hl : l.length ≤ 80) (d : Nat) : ∀ (i : Nat), l.length - i = d → i ≤ l.length → Ev (fun k => impl_listText.l0 k ((l.take i).map decT) l (l.length : Int) (i : Int)) (listT l) := by
  induction d with
  | zero =>
    intro i hd hi
    rw [List.take_of_length_le (by omega)]
    refine ev_ret (fun k => ?_)
    rw [impl_listText.l0, if_neg (by omega), List.length_map]
    unfold listT
    by_cases h : l = []
    · subst h
      rw [if_pos rfl, if_pos (by simp)]
    · rw [if_neg h, if_neg (by intro e; exact h (List.eq_nil_of_length_eq_zero (by omega)))]
      have e : (l.map decT).map (fun x : ByteArray => x.data.toList) = l.map Go.Lib.itoa := by rw [List.map_map]; rfl
      unfold strings_Join.f
      rw [e]
      have h1 := listT_len l hb hl
      rw [if_pos ⟨by rw [List.length_map]; omega, by show (Go.Lib.join (l.map Go.Lib.itoa) [32]).length ≤ _; omega⟩]
      rfl
  | succ d ih =>
    intro i hd hi
    have hx := ih (i + 1) (by omega) (by omega)
    rw [take_snoc l i (by omega), List.map_append, List.map_cons, List.map_nil] at hx
    have hr := hb _ (rd_mem l i (by omega))
    refine Ev.step (fun k => ?_) hx
    rw [impl_listText.l0, if_pos (by omega), if_pos (by omega), if_pos (by omega), impl_dec _ (by omega) (by omega), Option.bind_some, if_pos (by simp; omega), wid (x := (i : Int) + 1) (by omega) (by omega), show ((i + 1 : Nat) : Int) = (i : Int) + 1 by omega]
theorem impl_listText (l : List Int) (hb : ∀ x ∈ l, -1000000000 ≤ x ∧ x ≤ 1000000000) (hl : l.length ≤ 80) : Ev (fun k => impl_listText.f k l) (listT l) := impl_listText_l l hb hl l.length 0 (by omega) (by omega)

/-! the reference's numeral -/
theorem dec_l0 (n : Int) (hn : -9223372036854775808 ≤ n ∧ n ≤ 9223372036854775807) (hz : n ≠ 0) (u : Nat) : ∀ (o : ByteArray) (rest : Int), rest.natAbs = u → -9223372036854775808 ≤ rest ∧ rest ≤ 9223372036854775807 → u < 10 ^ (20 - o.size) → o.size ≤ 20 → (rest = 0 ∨ (n < 0 ↔ rest < 0)) →
    Ev (fun k => spec_l01Dec.l0 k n o rest) ⟨((if n < 0 then [45] else []) ++ (if u = 0 then [] else Go.Lib.decDigits u) ++ o.data.toList).toArray⟩ := by
  induction u using Nat.strongRecOn with
  | _ u ih =>
    intro o rest hu hr hpow ho2 hs
    by_cases c : rest = 0
    · subst c
      have hu0 : u = 0 := by simpa using hu.symm
      subst hu0
      refine ev_ret (fun k => ?_)
      rw [spec_l01Dec.l0, if_pos rfl, if_neg hz]
      by_cases g : n < 0
      · rw [if_pos g, if_pos (by omega), if_pos g]
        exact congrArg some (ba_ext (by rw [ba_app]; simp))
      · rw [if_neg g, if_neg g]
        exact congrArg some (ba_ext (by simp))
    · have hs2 : n < 0 ↔ rest < 0 := by rcases hs with h | h; exact absurd h c; exact h
      have hm := Int.mul_tdiv_add_tmod rest 10
      have hd : (Int.tdiv rest 10).natAbs = u / 10 := by rw [Int.natAbs_tdiv, hu]; rfl
      have hdig : (if Int.tmod rest 10 < 0 then -(Int.tmod rest 10) else Int.tmod rest 10) = ((u % 10 : Nat) : Int) := by
        have e : (Int.tmod rest 10).natAbs = u % 10 := by rw [Int.natAbs_tmod, hu]; rfl
        split <;> omega
      have hu1 : u ≠ 0 := by omega
      have hsg : Int.tdiv rest 10 = 0 ∨ (n < 0 ↔ Int.tdiv rest 10 < 0) := by
        by_cases z : Int.tdiv rest 10 = 0
        · exact Or.inl z
        · refine Or.inr ?_
          have := Int.tmod_lt_of_pos rest (show (0 : Int) < 10 by decide)
          have := Int.lt_tmod_of_pos rest (show (0 : Int) < 10 by decide)
          omega
      have hbd : -9223372036854775808 ≤ Int.tdiv rest 10 ∧ Int.tdiv rest 10 ≤ 9223372036854775807 := by omega
      have hsz : ((⟨#[UInt8.ofNat (48 + u % 10)]⟩ : ByteArray) ++ o).size = o.size + 1 := by rw [ByteArray.size_append]; show 1 + o.size = _; omega
      have hp2 : o.size < 20 := by
        by_cases q : o.size < 20
        · exact q
        · have : o.size = 20 := by omega
          rw [this] at hpow
          omega
      have hpow2 : u / 10 < 10 ^ (20 - (o.size + 1)) := by
        have e : 20 - o.size = (20 - (o.size + 1)) + 1 := by omega
        rw [e, Nat.pow_succ] at hpow
        omega
      have hx := ih (u / 10) (by omega) ((⟨#[UInt8.ofNat (48 + u % 10)]⟩ : ByteArray) ++ o) (Int.tdiv rest 10) hd hbd (by rw [hsz]; exact hpow2) (by rw [hsz]; omega) hsg
      have er : (if n < 0 then ([45] : List UInt8) else []) ++ (if u / 10 = 0 then [] else Go.Lib.decDigits (u / 10)) ++ ((⟨#[UInt8.ofNat (48 + u % 10)]⟩ : ByteArray) ++ o).data.toList = (if n < 0 then [45] else []) ++ (if u = 0 then [] else Go.Lib.decDigits u) ++ o.data.toList := by
        rw [ba_app, if_neg hu1]
        by_cases s : u < 10
        · rw [if_pos (show u / 10 = 0 by omega), Go.Lib.decDigits_one s, show u % 10 = u by omega]
          simp
        · rw [if_neg (show ¬ u / 10 = 0 by omega), dd_big s]
          simp
      rw [er] at hx
      refine Ev.step (fun k => ?_) hx
      rw [spec_l01Dec.l0, if_neg c]
      have hw : wrap64 (Int.tdiv rest 10) = Int.tdiv rest 10 := wid hbd.1 (by omega)
      have ht := Int.tmod_lt_of_pos rest (show (0 : Int) < 10 by decide)
      have ht2 := Int.lt_tmod_of_pos rest (show (0 : Int) < 10 by decide)
      have hg : ∀ x : Int, x = ((u % 10 : Nat) : Int) → strOfNums [(wrap64 (48 + x)) % 256] = ⟨#[UInt8.ofNat (48 + u % 10)]⟩ := by
        intro x hx
        have e : ((wrap64 (48 + x)) % 256).toNat = 48 + u % 10 := by rw [wid (by omega) (by omega)]; omega
        rw [str1, e]
      by_cases g : Int.tmod rest 10 < 0
      · rw [if_pos g] at hdig
        rw [if_pos g, Option.bind_some, wid (x := -(Int.tmod rest 10)) (by omega) (by omega), hg _ hdig, if_pos (by show 1 + o.size ≤ _; omega), hw]
      · rw [if_neg g] at hdig
        rw [if_neg g, Option.bind_some, hg _ hdig, if_pos (by show 1 + o.size ≤ _; omega), hw]
theorem dec_is (n : Int) (h0 : -9223372036854775808 ≤ n) (h1 : n ≤ 9223372036854775807) : Ev (fun k => spec_l01Dec.f k n) ⟨(Go.Lib.itoa n).toArray⟩ := by
  by_cases hz : n = 0
  · subst hz
    refine ev_ret (fun k => ?_)
    unfold spec_l01Dec.f
    rw [spec_l01Dec.l0, if_pos rfl, if_pos rfl]
    have : Go.Lib.itoa 0 = [48] := by unfold Go.Lib.itoa; rw [if_neg (by decide)]; exact Go.Lib.decDigits_one (by decide)
    rw [this]
  · have hx := dec_l0 n ⟨h0, h1⟩ hz n.natAbs ⟨#[]⟩ n rfl ⟨h0, h1⟩ (by show n.natAbs < 10 ^ 20; omega) (by show 0 ≤ 20; omega) (Or.inr Iff.rfl)
    have e : ((if n < 0 then ([45] : List UInt8) else []) ++ (if n.natAbs = 0 then [] else Go.Lib.decDigits n.natAbs) ++ (⟨#[]⟩ : ByteArray).data.toList) = Go.Lib.itoa n := by
      unfold Go.Lib.itoa
      rw [if_neg (show ¬ n.natAbs = 0 by omega)]
      by_cases g : n < 0
      · rw [if_pos g, if_pos g]; simp
      · rw [if_neg g, if_neg g, show n.natAbs = n.toNat by omega]; simp
    rw [e] at hx
    exact hx

theorem spec_listText_l (l : List Int) (hb : ∀ x ∈ l, -1000000000 ≤ x ∧ x ≤ 1000000000) (hl : l.length ≤ 80) (d : Nat) : ∀ (i : Nat), l.length - i = d → i ≤ l.length → Ev (fun k => spec_l01Text.l0 k l ⟨(Go.Lib.join ((l.take i).map Go.Lib.itoa) [32]).toArray⟩ (i : Int)) (listT l) := by
  induction d with
  | zero =>
    intro i hd hi
    rw [List.take_of_length_le (by omega)]
    refine ev_ret (fun k => ?_)
    rw [spec_l01Text.l0, if_neg (by omega), ByteArray.toList_eq]
    unfold listT
    cases l with
    | nil =>
      rw [if_pos (show (⟨(Go.Lib.join (([] : List Int).map Go.Lib.itoa) [32]).toArray⟩ : ByteArray).data.toList = [] from rfl), if_pos rfl]
    | cons a l =>
      have hne : ¬ (⟨(Go.Lib.join ((a :: l).map Go.Lib.itoa) [32]).toArray⟩ : ByteArray).data.toList = [] := by rw [List.map_cons]; exact join_ne _ _ _ (itoa_ne a)
      rw [if_neg hne, if_neg (show ¬ (a :: l) = [] by simp)]
  | succ d ih =>
    intro i hd hi
    have hx := ih (i + 1) (by omega) (by omega)
    rw [take_snoc l i (by omega), List.map_append, List.map_cons, List.map_nil] at hx
    have hr := hb _ (rd_mem l i (by omega))
    have hdec := dec_is (rd l (i : Int)) (by omega) (by omega)
    have hs := listT_len (l.take i) (fun x hx => hb x (List.mem_of_mem_take hx)) (by rw [List.length_take]; omega)
    have hd1 := itoa_len hr.1 hr.2
    generalize hT : (⟨(Go.Lib.join ((l.take i).map Go.Lib.itoa) [32]).toArray⟩ : ByteArray) = T at *
    have hTs : T.size ≤ 960 := by rw [← hT, ba_size]; exact hs
    have hDs : (decT (rd l (i : Int))).size ≤ 11 := by rw [ba_size]; exact hd1
    have e2 : wrap64 ((i : Int) + 1) = ((i + 1 : Nat) : Int) := by rw [wid (by omega) (by omega)]; omega
    by_cases h0 : i = 0
    · subst h0
      have eT : T.data.toList = [] := by rw [← hT]; rfl
      have en : (⟨(Go.Lib.join (((l.take 0).map Go.Lib.itoa) ++ [Go.Lib.itoa (rd l ((0 : Nat) : Int))]) [32]).toArray⟩ : ByteArray) = T ++ decT (rd l ((0 : Nat) : Int)) := by
        apply ba_ext
        rw [ba_app, eT]
        show Go.Lib.join [Go.Lib.itoa (rd l ((0 : Nat) : Int))] [32] = _
        rw [Go.Lib.join_one]; rfl
      rw [en] at hx
      refine Ev.step (f := fun k => (spec_l01Dec.f k (rd l ((0 : Nat) : Int))).bind fun t124 => (if T.size + t124.size ≤ 9223372036854775807 then (spec_l01Text.l0 k l (T ++ t124) ((0 + 1 : Nat) : Int)) else none)) (fun k => ?_) (Ev.bind hdec ?_)
      · rw [spec_l01Text.l0, if_pos (by omega), if_neg (by omega), if_pos (by omega), e2]
      · show Ev (fun k => if T.size + (decT (rd l ((0 : Nat) : Int))).size ≤ 9223372036854775807 then spec_l01Text.l0 k l (T ++ decT (rd l ((0 : Nat) : Int))) ((0 + 1 : Nat) : Int) else none) _
        simp only [if_pos (show T.size + (decT (rd l ((0 : Nat) : Int))).size ≤ 9223372036854775807 by omega)]
        exact hx
    · have hne : (l.take i).map Go.Lib.itoa ≠ [] := by
        intro e
        have := congrArg List.length e
        rw [List.length_map, List.length_take, List.length_nil] at this
        omega
      have en : (⟨(Go.Lib.join (((l.take i).map Go.Lib.itoa) ++ [Go.Lib.itoa (rd l (i : Int))]) [32]).toArray⟩ : ByteArray) = (T ++ (⟨#[32]⟩ : ByteArray)) ++ decT (rd l (i : Int)) := by
        apply ba_ext
        rw [ba_app, ba_app, ← hT]
        show Go.Lib.join _ [32] = _
        rw [join_snoc _ hne]; rfl
      rw [en] at hx
      have hsz : (T ++ (⟨#[32]⟩ : ByteArray)).size = T.size + 1 := by rw [ByteArray.size_append]; rfl
      refine Ev.step (f := fun k => (spec_l01Dec.f k (rd l (i : Int))).bind fun t122 => (if (T ++ (⟨#[32]⟩ : ByteArray)).size + t122.size ≤ 9223372036854775807 then (spec_l01Text.l0 k l ((T ++ (⟨#[32]⟩ : ByteArray)) ++ t122) ((i + 1 : Nat) : Int)) else none)) (fun k => ?_) (Ev.bind hdec ?_)
      · rw [spec_l01Text.l0, if_pos (by omega), if_pos (by omega), if_pos (by omega), if_pos (by omega), e2]
      · show Ev (fun k => if (T ++ (⟨#[32]⟩ : ByteArray)).size + (decT (rd l (i : Int))).size ≤ 9223372036854775807 then spec_l01Text.l0 k l ((T ++ (⟨#[32]⟩ : ByteArray)) ++ decT (rd l (i : Int))) ((i + 1 : Nat) : Int) else none) _
        simp only [if_pos (show (T ++ (⟨#[32]⟩ : ByteArray)).size + (decT (rd l (i : Int))).size ≤ 9223372036854775807 by omega)]
        exact hx
theorem spec_listText (l : List Int) (hb : ∀ x ∈ l, -1000000000 ≤ x ∧ x ≤ 1000000000) (hl : l.length ≤ 80) : Ev (fun k => spec_l01Text.f k l) (listT l) := spec_listText_l l hb hl l.length 0 (by omega) (by omega)

/-! is it a list of the chapter? -/
theorem spec_list_l (l : List Int) (hl : l.length ≤ 140737488355328) (d : Nat) : ∀ (i : Nat), i ≤ l.length → l.length - i = d → Ev (fun k => spec_l01List.l0 k l (i : Int)) ((l.drop i).all (fun x => decide (-1000000000 ≤ x) && decide (x ≤ 1000000000)) && decide ((l.length : Int) ≤ 80)) := by
  induction d with
  | zero =>
    intro i hi hd
    rw [List.drop_eq_nil_of_le (by omega)]
    exact ev_ret (fun k => by rw [spec_l01List.l0, if_neg (by omega)]; rfl)
  | succ d ih =>
    intro i hi hd
    have hx := ih (i + 1) (by omega) (by omega)
    have g1 : (i : Int) < (l.length : Int) := by omega
    have g2 : (0 : Int) ≤ (i : Int) := by omega
    have e2 : wrap64 ((i : Int) + 1) = ((i + 1 : Nat) : Int) := by rw [wid (by omega) (by omega)]; omega
    rw [drop_cons l i (by omega), List.all_cons]
    generalize hz : rd l (i : Int) = z
    have hs : spec_l00In.f z (-1000000000) 1000000000 = some (decide (-1000000000 ≤ z) && decide (z ≤ 1000000000)) := by
      unfold spec_l00In.f
      by_cases h : -1000000000 ≤ z
      · rw [if_pos h, decide_eq_true h, Bool.true_and]
      · rw [if_neg h, decide_eq_false h, Bool.false_and]
    refine Ev.step (f := fun k => if (decide (-1000000000 ≤ z) && decide (z ≤ 1000000000)) = true then spec_l01List.l0 k l ((i + 1 : Nat) : Int) else some false) (fun k => ?_) ?_
    · rw [spec_l01List.l0, if_pos g1, if_pos g2, hz, hs, Option.bind_some, e2]
    · cases (decide (-1000000000 ≤ z) && decide (z ≤ 1000000000)) with
      | true => simpa using hx
      | false => simpa using Ev.now false
/-- Is it a list of the chapter? -/
def isL (l : List Int) : Bool := l.all (fun x => decide (-1000000000 ≤ x) && decide (x ≤ 1000000000)) && decide ((l.length : Int) ≤ 80)
theorem spec_list (l : List Int) (hl : l.length ≤ 140737488355328) : Ev (fun k => spec_l01List.f k l) (isL l) := spec_list_l l hl l.length 0 (by omega) (by omega)
theorem impl_list (l : List Int) : impl_isList.f l = some (isL l) := by
  unfold impl_isList.f impl_allIn.f isL
  by_cases h : (l.length : Int) ≤ 80
  · rw [if_pos h, decide_eq_true h, Bool.and_true]; rfl
  · rw [if_neg h, decide_eq_false h, Bool.and_false]

theorem toInts_l (l : List Int) (hl : l.length ≤ 140737488355328) (d : Nat) : ∀ (i : Nat) (xs : List Int), xs.length = l.length → (∀ j, j < i → xs.getD j 0 = l.getD j 0) → l.length - i = d → i ≤ l.length →
    Ev (fun k => laws_toInt64S.l0 k l xs (i : Int)) l := by
  induction d with
  | zero =>
    intro i xs hx h hd hi
    have e : xs = l := ext_getD hx (fun j hj => h j (by omega))
    subst e
    exact ev_ret (fun k => by rw [laws_toInt64S.l0, if_neg (by omega)])
  | succ d ih =>
    intro i xs hx h hd hi
    refine Ev.step (fun k => ?_) (ih (i + 1) (xs.set i (rd l (i : Int))) (by rw [List.length_set, hx]) (fun j hj => ?_) (by omega) (by omega))
    · rw [laws_toInt64S.l0, if_pos (by omega), if_pos (by omega), if_pos (by omega), Int.toNat_natCast, wid (x := (i : Int) + 1) (by omega) (by omega), show ((i + 1 : Nat) : Int) = (i : Int) + 1 by omega]
    · rw [getD_set _ _ _ _ (by omega)]
      by_cases e : i = j
      · subst e; rw [if_pos rfl, rd_nat]
      · rw [if_neg e]; exact h j (by omega)
theorem toInts (l : List Int) (hl : l.length ≤ 35184372088832) : Ev (fun k => laws_toInt64S.f k l) l := by
  unfold laws_toInt64S.f
  simp only [if_pos (show (0 : Int) ≤ (l.length : Int) by omega), Int.toNat_natCast, if_pos hl]
  exact toInts_l l (by omega) l.length 0 _ (by rw [List.length_replicate]) (fun j hj => by omega) (by omega) (by omega)

/-- A list is equal to itself. -/
theorem eqs_l (a : List Int) (ha : a.length ≤ 140737488355328) (d : Nat) : ∀ (i : Int), 0 ≤ i → (a.length : Int) - i = d → Ev (fun k => laws_eqInt64S.l0 k a a i) true := by
  induction d with
  | zero => intro i h0 hd; exact ev_ret (fun k => by rw [laws_eqInt64S.l0, if_neg (by omega)])
  | succ d ih =>
    intro i h0 hd
    refine Ev.step (fun k => ?_) (ih (i + 1) (by omega) (by omega))
    rw [laws_eqInt64S.l0, if_pos (by omega), if_pos h0, if_pos (by omega), if_pos rfl, wid (x := i + 1) (by omega) (by omega)]
theorem eqs (a : List Int) (ha : a.length ≤ 140737488355328) : Ev (fun k => laws_eqInt64S.f k a a) true := by
  unfold laws_eqInt64S.f
  simp only [if_true]
  exact eqs_l a ha a.length 0 (by omega) (by omega)

def listOut (l : List Int) : ByteArray × Bool := if isL l = true then (listT l, true) else (⟨#[]⟩, false)
theorem isL_bd (l : List Int) (h : isL l = true) : (∀ x ∈ l, -1000000000 ≤ x ∧ x ≤ 1000000000) ∧ l.length ≤ 80 := by
  unfold isL at h
  rw [Bool.and_eq_true, List.all_eq_true, decide_eq_true_eq] at h
  refine ⟨fun x hx => ?_, by omega⟩
  have := h.1 x hx
  simpa using this
theorem impl_out (l : List Int) : Ev (fun k => impl_ListText.f k l) (listOut l) := by
  unfold impl_ListText.f listOut
  simp only [impl_list, Option.bind_some]
  by_cases h : isL l = true
  · simp only [if_pos h]
    obtain ⟨hb, hl⟩ := isL_bd l h
    exact Ev.bind (impl_listText l hb hl) (Ev.now _)
  · simp only [if_neg h]; exact Ev.now _
theorem spec_out (l : List Int) (hl : l.length ≤ 140737488355328) : Ev (fun k => spec_ListText.f k l) (listOut l) := by
  unfold spec_ListText.f listOut
  refine Ev.bind (spec_list l hl) ?_
  by_cases h : isL l = true
  · simp only [if_pos h]
    obtain ⟨hb, hl⟩ := isL_bd l h
    exact Ev.bind (spec_listText l hb hl) (Ev.now _)
  · simp only [if_neg h]; exact Ev.now _
theorem FnExactListText : laws_FnExactListText.Pure := by
  intro l _
  refine Ev.rounds (r := true) ?_
  unfold laws_FnExactListText.f
  by_cases hb : (l.length : Int) > 1048576
  · simp only [if_pos hb]; exact Ev.now _
  simp only [if_neg hb]
  have et := toInts l (by omega)
  refine Ev.bind et (Ev.bind (spec_out l (by omega)) (Ev.bind et (Ev.bind (impl_out l) ?_)))
  simp only [if_true, bne_self_eq_false]
  refine Ev.step (fun k => by rw [laws_FnExactListText.j0, if_neg (by decide)]) ?_
  refine Ev.bind et (Ev.bind (eqs l (by omega)) (ev_all fun k => ?_))
  rw [if_pos rfl]

end Go.Proofs.YtbfcnacllonnbaaDoor.Pure
