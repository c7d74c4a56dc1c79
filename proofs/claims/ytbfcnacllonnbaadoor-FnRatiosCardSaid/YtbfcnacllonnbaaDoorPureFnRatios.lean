/- A ratio in lowest terms is equal to the ratio and has no common divisor, and comparing agrees with the products. Conditions: those of the card alone. -/
import Derived.Test.YtbfcnacllonnbaaDoorPFnRatiosy
namespace Go.Proofs.YtbfcnacllonnbaaDoor.Pure
open Go.RowKit Go.Proofs.YtbfcnacllonnbaaDoor.PFnRatios Go.Proofs.YtbfcnacllonnbaaDoorW.PrintWords Go.Proofs.YtbfcnacllonnbaaDoorW.PrintLast Go.Proofs.YtbfcnacllonnbaaDoorW.PrintMore
set_option linter.unusedVariables false
set_option linter.unusedSimpArgs false

theorem wid {x : Int} (h1 : -9223372036854775808 ≤ x) (h2 : x < 9223372036854775808) : wrap64 x = x := by unfold wrap64; omega
theorem i64_bd {x : Int} (h : (Lit.int .i64 x).wf = true) : -9223372036854775808 ≤ x ∧ x ≤ 9223372036854775807 := by
  simp only [Lit.wf, IntKind.min, IntKind.max, IntKind.signed, IntKind.bits, Bool.and_eq_true, decide_eq_true_eq, if_true] at h
  omega
/-- A loop's step, its answer known at once. -/
theorem ev_ret {α : Type} {g : Nat → Option α} {r : α} (h : ∀ k, g (k + 1) = some r) : Ev g r := Ev.step (f := fun _ => some r) h (Ev.now r)
theorem ev_all {α : Type} {g : Nat → Option α} {r : α} (h : ∀ k, g k = some r) : Ev g r := ⟨0, fun k _ => h k⟩

theorem ratio_impl (a b : Int) : impl_isRatio.f a b = some (decide (0 ≤ a ∧ a ≤ 1000000000 ∧ 1 ≤ b ∧ b ≤ 1000000000)) := by
  unfold impl_isRatio.f impl_inRange.f
  by_cases h1 : 0 ≤ a <;> by_cases h2 : a ≤ 1000000000 <;> by_cases h3 : 1 ≤ b <;> by_cases h4 : b ≤ 1000000000 <;> simp [h1, h2, h3, h4]

/-- The program's divisor: Euclid's way from the second number on. -/
theorem impl_gcd (n : Nat) : ∀ (a b : Int), 0 ≤ a → 0 ≤ b → b ≤ n → Ev (fun k => impl_divisor.l0 k a b) ((Nat.gcd a.toNat b.toNat : Nat) : Int) := by
  induction n with
  | zero =>
    intro a b ha hb hn
    have hb0 : b = 0 := by omega
    subst hb0
    refine ev_ret (fun k => ?_)
    rw [impl_divisor.l0, if_pos rfl]; simp; omega
  | succ n ih =>
    intro a b ha hb hn
    by_cases h : b = 0
    · subst h
      refine ev_ret (fun k => ?_)
      rw [impl_divisor.l0, if_pos rfl]; simp; omega
    · have hm : Int.tmod a b = a % b := Int.tmod_eq_emod_of_nonneg ha
      have h1 : 0 ≤ a % b := Int.emod_nonneg a h
      have h2 : a % b < b := Int.emod_lt_of_pos a (by omega)
      have e := ih b (a % b) hb h1 (by omega)
      have hg : Nat.gcd a.toNat b.toNat = Nat.gcd b.toNat (a % b).toNat := by
        obtain ⟨x, rfl⟩ := Int.eq_ofNat_of_zero_le ha
        obtain ⟨y, rfl⟩ := Int.eq_ofNat_of_zero_le hb
        rw [← Int.natCast_emod, Int.toNat_natCast, Int.toNat_natCast, Int.toNat_natCast, Nat.gcd_comm, Nat.gcd_rec, Nat.gcd_comm]
      rw [hg]
      refine Ev.step (fun k => ?_) e
      rw [impl_divisor.l0, if_neg h, hm]
theorem gcd_pos {a b : Int} (hb : 1 ≤ b) : (0 : Int) < ((Nat.gcd a.toNat b.toNat : Nat) : Int) := by
  have := Nat.gcd_pos_of_pos_right a.toNat (n := b.toNat) (by omega)
  omega

/-- What both make of two numbers. -/
def redOf (a b : Int) : Int × Int × Bool := if 0 ≤ a ∧ a ≤ 1000000000 ∧ 1 ≤ b ∧ b ≤ 1000000000 then (a / ((Nat.gcd a.toNat b.toNat : Nat) : Int), b / ((Nat.gcd a.toNat b.toNat : Nat) : Int), true) else (0, 0, false)
theorem quo_in {a g : Int} (h0 : 0 ≤ a) (h1 : a ≤ 1000000000) (hg : 0 < g) : wrap64 (Int.tdiv a g) = a / g := by
  rw [Int.tdiv_eq_ediv_of_nonneg h0]
  have h2 := Int.ediv_le_self g h0
  have h3 := Int.ediv_nonneg h0 (show 0 ≤ g by omega)
  exact wid (by omega) (by omega)
theorem impl_reduce (a b : Int) : Ev (fun k => impl_ReduceRatio.f k a b) (redOf a b) := by
  unfold impl_ReduceRatio.f redOf
  simp only [ratio_impl a b, Option.bind_some, decide_eq_true_eq]
  by_cases h : 0 ≤ a ∧ a ≤ 1000000000 ∧ 1 ≤ b ∧ b ≤ 1000000000
  · obtain ⟨h1, h2, h3, h4⟩ := id h
    simp only [if_pos h]
    have hp := gcd_pos (a := a) h3
    refine Ev.bind (impl_gcd b.toNat a b h1 (by omega) (by omega)) (ev_all fun k => ?_)
    rw [if_neg (by omega), quo_in h1 h2 hp, quo_in (by omega) h4 hp]
  · simp only [if_neg h]
    exact Ev.now _

/-! the decimal numeral -/
theorem dd_big {u : Nat} (h : ¬ u < 10) : Go.Lib.decDigits u = Go.Lib.decDigits (u / 10) ++ [UInt8.ofNat (48 + u % 10)] := by rw [Go.Lib.decDigits, dif_neg h]
theorem dd_ind {p : Nat → Prop} (h1 : ∀ u, u < 10 → p u) (h2 : ∀ u, ¬ u < 10 → p (u / 10) → p u) (u : Nat) : p u := by
  induction u using Nat.strongRecOn with
  | _ u ih =>
    by_cases h : u < 10
    · exact h1 u h
    · exact h2 u h (ih (u / 10) (by omega))
theorem dg_nat {d : Nat} (h : d < 10) : (UInt8.ofNat (48 + d)).toNat = 48 + d := by
  have e : (UInt8.ofNat (48 + d)).toNat = (48 + d) % 256 := rfl
  rw [e]; omega
theorem dd_ne (u : Nat) : Go.Lib.decDigits u ≠ [] := by
  refine dd_ind (p := fun u => Go.Lib.decDigits u ≠ []) (fun u h => ?_) (fun u h _ => ?_) u
  · rw [Go.Lib.decDigits_one h]; simp
  · rw [dd_big h]; simp
theorem dd_dig (u : Nat) : ∀ c ∈ Go.Lib.decDigits u, 48 ≤ c.toNat ∧ c.toNat ≤ 57 := by
  refine dd_ind (p := fun u => ∀ c ∈ Go.Lib.decDigits u, 48 ≤ c.toNat ∧ c.toNat ≤ 57) (fun u h c hc => ?_) (fun u h ih c hc => ?_) u
  · rw [Go.Lib.decDigits_one h, List.mem_singleton] at hc
    rw [hc, dg_nat h]; omega
  · rw [dd_big h, List.mem_append, List.mem_singleton] at hc
    rcases hc with hc | hc
    · exact ih c hc
    · rw [hc, dg_nat (by omega)]; omega
def vl (a : Nat) (l : List UInt8) : Nat := l.foldl (fun a c => a * 10 + (c.toNat - 48)) a
theorem vl_cons (a : Nat) (c : UInt8) (l : List UInt8) : vl a (c :: l) = vl (a * 10 + (c.toNat - 48)) l := by unfold vl; rw [List.foldl_cons]
theorem vl_app (a : Nat) (l : List UInt8) (c : UInt8) : vl a (l ++ [c]) = vl a l * 10 + (c.toNat - 48) := by unfold vl; rw [List.foldl_append]; rfl
theorem vl_dd (u : Nat) : vl 0 (Go.Lib.decDigits u) = u := by
  refine dd_ind (p := fun u => vl 0 (Go.Lib.decDigits u) = u) (fun u h => ?_) (fun u h ih => ?_) u
  · rw [Go.Lib.decDigits_one h, vl_cons, dg_nat h]
    show 0 * 10 + (48 + u - 48) = u
    omega
  · rw [dd_big h, vl_app, ih, dg_nat (by omega)]; omega
theorem vl_ge : ∀ (l : List UInt8) (a : Nat), a ≤ vl a l
  | [], a => Nat.le_refl _
  | c :: l, a => by have := vl_ge l (a * 10 + (c.toNat - 48)); rw [vl_cons]; omega
theorem pu_ok : ∀ (l : List UInt8) (acc : Nat), (∀ c ∈ l, 48 ≤ c.toNat ∧ c.toNat ≤ 57) → vl acc l ≤ 1000000000000000000 → Go.Lib.parseUintM (2 ^ 64 - 1) acc l = .ok (vl acc l)
  | [], acc, _, _ => rfl
  | c :: l, acc, h, hv => by
    have hc := h c (List.mem_cons_self ..)
    have hg := vl_ge l (acc * 10 + (c.toNat - 48))
    rw [vl_cons] at hv
    rw [Go.Lib.parseUintM, if_pos hc, if_neg (by omega), if_neg (by omega), vl_cons]
    exact pu_ok l _ (fun c hc => h c (List.mem_cons_of_mem _ hc)) hv
theorem dd_len {u k : Nat} (h : u < 10 ^ (k + 1)) : (Go.Lib.decDigits u).length ≤ k + 1 := by
  induction k generalizing u with
  | zero => rw [Go.Lib.decDigits_one (by simpa using h)]; simp
  | succ k ih =>
    by_cases c : u < 10
    · rw [Go.Lib.decDigits_one c]; simp
    · rw [dd_big c, List.length_append, List.length_singleton]
      have := ih (u := u / 10) (by rw [Nat.pow_succ] at h; omega)
      omega
theorem itoa_len {n : Int} (h1 : -1000000000 ≤ n) (h2 : n ≤ 1000000000) : (Go.Lib.itoa n).length ≤ 11 := by
  unfold Go.Lib.itoa
  split
  · rw [List.length_cons]
    have := dd_len (u := n.natAbs) (k := 9) (by omega)
    omega
  · have := dd_len (u := n.toNat) (k := 9) (by omega)
    omega
theorem itoa_ne (n : Int) : Go.Lib.itoa n ≠ [] := by
  unfold Go.Lib.itoa
  split
  · simp
  · exact dd_ne _
/-- The numeral is read back. -/
theorem parse_itoa {n : Int} (h1 : -1000000000 ≤ n) (h2 : n ≤ 1000000000) : Go.Lib.parseIntB 64 (Go.Lib.itoa n) = .ok n := by
  unfold Go.Lib.itoa
  by_cases c : n < 0
  · rw [if_pos c]
    have e := pu_ok (Go.Lib.decDigits n.natAbs) 0 (dd_dig _) (by rw [vl_dd]; omega)
    rw [vl_dd] at e
    have e2 : Go.Lib.parseUintB 64 (Go.Lib.decDigits n.natAbs) = .ok n.natAbs := by unfold Go.Lib.parseUintB; rw [if_neg (dd_ne _)]; exact e
    unfold Go.Lib.parseIntB
    simp only [show ((45 : UInt8).toNat = 43 ∨ (45 : UInt8).toNat = 45) from Or.inr rfl, if_true, e2]
    rw [if_neg (by rintro ⟨h, -⟩; exact h rfl), if_neg (by rintro ⟨-, h⟩; simp at h; omega), if_pos (show (45 : UInt8).toNat = 45 from rfl)]
    congr 1
    omega
  · rw [if_neg c]
    have e := pu_ok (Go.Lib.decDigits n.toNat) 0 (dd_dig _) (by rw [vl_dd]; omega)
    rw [vl_dd] at e
    have e2 : Go.Lib.parseUintB 64 (Go.Lib.decDigits n.toNat) = .ok n.toNat := by unfold Go.Lib.parseUintB; rw [if_neg (dd_ne _)]; exact e
    have hd := dd_dig n.toNat
    generalize Go.Lib.decDigits n.toNat = l at e2 hd
    cases l with
    | nil => exact absurd e2 (by unfold Go.Lib.parseUintB; rw [if_pos rfl]; simp)
    | cons x l =>
      have hx := hd x (List.mem_cons_self ..)
      unfold Go.Lib.parseIntB
      simp only [show ¬ (x.toNat = 43 ∨ x.toNat = 45) by omega, if_false, e2]
      rw [if_neg (by rintro ⟨-, h⟩; simp at h; omega), if_neg (by rintro ⟨h, -⟩; omega), if_neg (by omega)]
      congr 1
      omega
theorem itoa_inj {n m : Int} (h1 : -1000000000 ≤ n) (h2 : n ≤ 1000000000) (h3 : -1000000000 ≤ m) (h4 : m ≤ 1000000000) (h : Go.Lib.itoa n = Go.Lib.itoa m) : n = m := by
  have a := parse_itoa h1 h2
  rw [h, parse_itoa h3 h4] at a
  injection a with a
  exact a.symm
theorem ba_ext {a b : ByteArray} (h : a.data.toList = b.data.toList) : a = b := by
  cases a with | mk x => cases b with | mk y => exact congrArg ByteArray.mk (Array.toList_inj.1 h)
theorem ba_list (l : List UInt8) : (⟨l.toArray⟩ : ByteArray).data.toList = l := rfl
theorem ba_mk (s : ByteArray) : (⟨s.data.toList.toArray⟩ : ByteArray) = s := ba_ext rfl
theorem ba_size (s : ByteArray) : s.size = s.data.toList.length := by rw [Array.length_toList]; rfl
theorem bt_list (s : ByteArray) (i : Nat) (h : i < s.data.toList.length) : bt s (i : Int) = ((s.data.toList[i]'h).toNat : Int) := by
  have h' : i < s.size := by rw [ba_size]; exact h
  unfold bt
  rw [dif_pos (by rw [Int.toNat_natCast]; exact h')]
  simp only [Int.toNat_natCast, Array.getElem_toList]
  rfl
theorem bt_cons (s : ByteArray) (i : Nat) (c : UInt8) (l : List UInt8) (h : s.data.toList.drop i = c :: l) : i < s.size ∧ bt s (i : Int) = (c.toNat : Int) ∧ s.data.toList.drop (i + 1) = l := by
  have hl : i < s.data.toList.length := by
    have := congrArg List.length h
    rw [List.length_drop, List.length_cons] at this
    omega
  rw [List.drop_eq_getElem_cons hl] at h
  injection h with h1 h2
  refine ⟨by rw [ba_size]; exact hl, ?_, h2⟩
  rw [bt_list s i hl, h1]

/-! texts and their bytes; the numeral's text -/
theorem str1 (x : Int) : strOfNums [x] = ⟨#[UInt8.ofNat x.toNat]⟩ := rfl
theorem ba_app (a b : ByteArray) : (a ++ b).data.toList = a.data.toList ++ b.data.toList := by
  rw [ByteArray.data_append, Array.toList_append]
theorem ba_len (a : ByteArray) : a.size = a.data.toList.length := ba_size a
/-- The numeral's text. -/
def decT (n : Int) : ByteArray := ⟨(Go.Lib.itoa n).toArray⟩

theorem impl_dec (n : Int) (h0 : -9223372036854775808 ≤ n) (h1 : n ≤ 9223372036854775807) : impl_Decimal.f n = some (decT n) := by unfold impl_Decimal.f; rw [if_pos ⟨h0, h1⟩]; rfl

/-! the text of a ratio -/
def ratT (x y : Int) : ByteArray := if y = 1 then decT x else (decT x ++ (⟨#[47]⟩ : ByteArray)) ++ decT y
def ratOut (r : Int × Int × Bool) : ByteArray × Bool := if r.2.2 = true then (ratT r.1 r.2.1, true) else (⟨#[]⟩, false)
theorem decT_size {n : Int} (h1 : -1000000000 ≤ n) (h2 : n ≤ 1000000000) : (decT n).size ≤ 11 := by
  rw [ba_size]; exact itoa_len h1 h2
theorem red_bd {a b : Int} (h : 0 ≤ a ∧ a ≤ 1000000000 ∧ 1 ≤ b ∧ b ≤ 1000000000) : 0 ≤ a / ((Nat.gcd a.toNat b.toNat : Nat) : Int) ∧ a / ((Nat.gcd a.toNat b.toNat : Nat) : Int) ≤ 1000000000 ∧ 1 ≤ b / ((Nat.gcd a.toNat b.toNat : Nat) : Int) ∧ b / ((Nat.gcd a.toNat b.toNat : Nat) : Int) ≤ 1000000000 := by
  obtain ⟨h1, h2, h3, h4⟩ := h
  have hp := gcd_pos (a := a) h3
  have e1 := Int.ediv_le_self ((Nat.gcd a.toNat b.toNat : Nat) : Int) h1
  have e2 := Int.ediv_le_self ((Nat.gcd a.toNat b.toNat : Nat) : Int) (show 0 ≤ b by omega)
  have e3 := Int.ediv_nonneg h1 (show 0 ≤ ((Nat.gcd a.toNat b.toNat : Nat) : Int) by omega)
  have hd : Nat.gcd a.toNat b.toNat ≤ b.toNat := Nat.gcd_le_right _ (by omega)
  have e4 : 1 ≤ b / ((Nat.gcd a.toNat b.toNat : Nat) : Int) := by
    rw [Int.le_ediv_iff_mul_le hp]; omega
  omega
theorem impl_ratText (a b : Int) : Ev (fun k => impl_RatioText.f k a b) (ratOut (redOf a b)) := by
  unfold impl_RatioText.f
  refine Ev.bind (impl_reduce a b) (ev_all fun k => ?_)
  unfold redOf ratOut
  by_cases h : 0 ≤ a ∧ a ≤ 1000000000 ∧ 1 ≤ b ∧ b ≤ 1000000000
  · rw [if_pos h]
    have hb := red_bd h
    generalize a / ((Nat.gcd a.toNat b.toNat : Nat) : Int) = x at hb
    generalize b / ((Nat.gcd a.toNat b.toNat : Nat) : Int) = y at hb
    have s1 := decT_size (n := x) (by omega) (by omega)
    have s2 := decT_size (n := y) (by omega) (by omega)
    show (if true = true then _ else _) = some (if true = true then _ else _)
    rw [if_pos rfl, if_pos rfl]
    show (if y = 1 then _ else _) = some (ratT x y, true)
    unfold ratT
    by_cases c : y = 1
    · rw [if_pos c, if_pos c]
      show (impl_Decimal.f x).bind _ = _
      rw [impl_dec x (by omega) (by omega), Option.bind_some]
    · rw [if_neg c, if_neg c]
      show (impl_Decimal.f x).bind _ = _
      rw [impl_dec x (by omega) (by omega), Option.bind_some, if_pos (by omega)]
      show (impl_Decimal.f y).bind _ = _
      rw [impl_dec y (by omega) (by omega), Option.bind_some, if_pos (by rw [ByteArray.size_append]; show (decT x).size + 1 + (decT y).size ≤ _; omega)]
  · rw [if_neg h]; rfl

theorem u8_bd {x : Int} (h : (Lit.int .u8 x).wf = true) : 0 ≤ x ∧ x ≤ 255 := by
  simp [Lit.wf, IntKind.min, IntKind.max, IntKind.signed, IntKind.bits] at h
  exact h

def longOf (l0 l1 : List Int) : Bool := decide ((l0.length : Int) > 1048576 ∨ (l1.length : Int) > 1048576)
theorem b10Long_is (l0 l1 : List Int) : laws_b10Long.f l0 l1 = some (longOf l0 l1) := by
  unfold laws_b10Long.f longOf
  by_cases h : (l0.length : Int) > 1048576
  · rw [if_pos h, decide_eq_true (Or.inl h)]
  · rw [if_neg h]
    by_cases g : (l1.length : Int) > 1048576
    · rw [decide_eq_true g, decide_eq_true (Or.inr g)]
    · rw [decide_eq_false g, decide_eq_false (by omega)]
theorem rd_in (xs : List Int) (i : Int) (h0 : 0 ≤ i) (h1 : i < (xs.length : Int)) : rd xs i ∈ xs := by
  unfold rd
  rw [List.getD_eq_getElem?_getD, List.getElem?_eq_getElem (by omega)]
  exact List.getElem_mem _
/-- A number from 0 to n - 1. -/
theorem b10At_is (l : List Int) (u : ∀ x ∈ l, (Lit.int .u8 x).wf = true) (i n : Int) (h0 : 0 ≤ i) (h1 : i ≤ 1000) (hn : 2 ≤ n) :
    ∃ t, laws_b10At.f l i n = some t ∧ 0 ≤ t ∧ t < n := by
  unfold laws_b10At.f
  rw [if_neg (by omega)]
  by_cases h : i < (l.length : Int)
  · have hb := u8_bd (u _ (rd_in l i h0 h))
    refine ⟨rd l i % n, ?_, Int.emod_nonneg _ (by omega), Int.emod_lt_of_pos _ (by omega)⟩
    rw [if_pos h, if_pos h0, if_neg (by omega), wid (by omega) (by omega), Int.tmod_eq_emod_of_nonneg hb.1]
  · refine ⟨(i * 37 + 11) % n, ?_, Int.emod_nonneg _ (by omega), Int.emod_lt_of_pos _ (by omega)⟩
    rw [if_neg h, if_neg (by omega), wid (x := i * 37) (by omega) (by omega), wid (by omega) (by omega), Int.tmod_eq_emod_of_nonneg (by omega)]

theorem cmp_is (a b c d : Int) (h : 0 ≤ a ∧ a ≤ 1000000000 ∧ 1 ≤ b ∧ b ≤ 1000000000) (h2 : 0 ≤ c ∧ c ≤ 1000000000 ∧ 1 ≤ d ∧ d ≤ 1000000000) :
    impl_CompareRatios.f a b c d = some ((if wrap64 (a * d) < wrap64 (c * b) then -1 else if wrap64 (a * d) > wrap64 (c * b) then 1 else 0), true) := by
  unfold impl_CompareRatios.f cmp_Compare_int64.f cmp_isNaN_int64.f
  rw [ratio_impl, decide_eq_true h, Option.bind_some, if_pos rfl, ratio_impl, decide_eq_true h2, Option.bind_some, if_pos rfl]
  generalize wrap64 (a * d) = x
  generalize wrap64 (c * b) = y
  simp only [bne_self_eq_false, Option.bind_some, if_neg (show ¬ (false = true) by decide)]
  by_cases l : x < y
  · simp only [if_pos l, Option.bind_some]
  · by_cases g : x > y
    · simp only [if_neg l, if_pos g, Option.bind_some]
    · simp only [if_neg l, if_neg g, Option.bind_some]
theorem ratios_l0 (a b c d x y n : Int) (hy : 1 ≤ y ∧ y ≤ 1000000000) (hg : Nat.gcd x.toNat y.toNat = 1) (hx : 0 ≤ x)
    (hn : n = if wrap64 (a * d) < wrap64 (c * b) then -1 else if wrap64 (a * d) > wrap64 (c * b) then 1 else 0) (e : Nat) : ∀ (k0 : Int), 2 ≤ k0 → (y + 1 - k0).toNat = e → Ev (fun k => laws_FnRatios.l0 k a b c d x y n k0) true := by
  induction e with
  | zero =>
    intro k0 h2 he
    refine ev_ret (fun k => ?_)
    rw [laws_FnRatios.l0, if_neg (by omega), hn]
    generalize wrap64 (a * d) = p
    generalize wrap64 (c * b) = q
    by_cases l : p < q
    · simp [l]
    · by_cases g : p > q
      · have e1 : ¬ p = q := by omega
        simp [l, g, e1]
      · have e1 : p = q := by omega
        subst e1
        simp
  | succ e ih =>
    intro k0 h2 he
    have hk : k0 ≤ y := by omega
    have hz := ih (k0 + 1) (by omega) (by omega)
    refine Ev.step (fun k => ?_) hz
    have hw : wrap64 (k0 + 1) = k0 + 1 := wid (by omega) (by omega)
    rw [laws_FnRatios.l0, if_pos hk, if_neg (by omega), hw]
    by_cases c1 : Int.tmod x k0 = 0
    · rw [if_pos c1]
      by_cases c2 : Int.tmod y k0 = 0
      · exfalso
        have d1 : k0 ∣ x := Int.dvd_of_tmod_eq_zero c1
        have d2 : k0 ∣ y := Int.dvd_of_tmod_eq_zero c2
        have n1 : k0.toNat ∣ x.toNat := by
          rw [← Int.natCast_dvd_natCast, Int.toNat_of_nonneg (by omega), Int.toNat_of_nonneg hx]; exact d1
        have n2 : k0.toNat ∣ y.toNat := by
          rw [← Int.natCast_dvd_natCast, Int.toNat_of_nonneg (by omega), Int.toNat_of_nonneg (by omega)]; exact d2
        have := Nat.dvd_gcd n1 n2
        rw [hg] at this
        have := Nat.le_of_dvd (by decide) this
        omega
      · rw [if_neg c2]
    · rw [if_neg c1]
theorem ratios_red (a b : Int) (h : 0 ≤ a ∧ a ≤ 1000000000 ∧ 1 ≤ b ∧ b ≤ 1000000000) :
    ∃ x y, redOf a b = (x, y, true) ∧ 0 ≤ x ∧ x ≤ a ∧ 1 ≤ y ∧ y ≤ b ∧ Nat.gcd x.toNat y.toNat = 1 ∧ x * b = a * y := by
  have hb := red_bd h
  have hp := gcd_pos (a := a) h.2.2.1
  refine ⟨a / ((Nat.gcd a.toNat b.toNat : Nat) : Int), b / ((Nat.gcd a.toNat b.toNat : Nat) : Int), by unfold redOf; rw [if_pos h], hb.1, Int.ediv_le_self _ h.1, hb.2.2.1, Int.ediv_le_self _ (by omega), ?_, ?_⟩
  · obtain ⟨p, rfl⟩ := Int.eq_ofNat_of_zero_le h.1
    obtain ⟨q, rfl⟩ := Int.eq_ofNat_of_zero_le (show 0 ≤ b by omega)
    rw [Int.toNat_natCast, Int.toNat_natCast, ← Int.natCast_ediv, ← Int.natCast_ediv, Int.toNat_natCast, Int.toNat_natCast]
    exact Nat.gcd_div_gcd_div_gcd_of_pos_right (by omega)
  · have d1 : ((Nat.gcd a.toNat b.toNat : Nat) : Int) ∣ a := by
      have := Int.natCast_dvd_natCast.2 (Nat.gcd_dvd_left a.toNat b.toNat)
      rwa [Int.toNat_of_nonneg h.1] at this
    have d2 : ((Nat.gcd a.toNat b.toNat : Nat) : Int) ∣ b := by
      have := Int.natCast_dvd_natCast.2 (Nat.gcd_dvd_right a.toNat b.toNat)
      rwa [Int.toNat_of_nonneg (by omega)] at this
    generalize ((Nat.gcd a.toNat b.toNat : Nat) : Int) = g at *
    have e1 := Int.ediv_mul_cancel d1
    have e2 := Int.ediv_mul_cancel d2
    generalize a / g = x at *
    generalize b / g = y at *
    rw [← e1, ← e2]
    rw [Int.mul_comm y g, ← Int.mul_assoc]
theorem FnRatios : laws_FnRatios.Pure := by
  intro l0 l1 u0 u1
  refine Ev.rounds (r := true) ?_
  unfold laws_FnRatios.f
  simp only [b10Long_is, Option.bind_some]
  by_cases hb : longOf l0 l1 = true
  · simp only [if_pos hb]; exact Ev.now _
  simp only [if_neg hb]
  obtain ⟨t1, e1, p1, q1⟩ := b10At_is l0 u0.2 0 256 (by omega) (by omega) (by omega)
  obtain ⟨t2, e2, p2, q2⟩ := b10At_is l0 u0.2 1 256 (by omega) (by omega) (by omega)
  obtain ⟨t3, e3, p3, q3⟩ := b10At_is l0 u0.2 2 256 (by omega) (by omega) (by omega)
  obtain ⟨t4, e4, p4, q4⟩ := b10At_is l1 u1.2 0 256 (by omega) (by omega) (by omega)
  obtain ⟨t5, e5, p5, q5⟩ := b10At_is l1 u1.2 1 256 (by omega) (by omega) (by omega)
  obtain ⟨t6, e6, p6, q6⟩ := b10At_is l1 u1.2 2 256 (by omega) (by omega) (by omega)
  simp only [e1, e2, e3, e4, e5, e6, Option.bind_some]
  have w1 : wrap64 (wrap64 (256 * t1) + t2) = 256 * t1 + t2 := by rw [wid (x := 256 * t1) (by omega) (by omega), wid (by omega) (by omega)]
  have w2 : wrap64 (wrap64 (256 * t4) + t5) = 256 * t4 + t5 := by rw [wid (x := 256 * t4) (by omega) (by omega), wid (by omega) (by omega)]
  have w3 : wrap64 (1 + t3) = 1 + t3 := wid (by omega) (by omega)
  have w4 : wrap64 (1 + t6) = 1 + t6 := wid (by omega) (by omega)
  simp only [w1, w2, w3, w4]
  obtain ⟨ba1, ba2⟩ : 0 ≤ 256 * t1 + t2 ∧ 256 * t1 + t2 ≤ 65535 := by omega
  obtain ⟨bb1, bb2⟩ : 1 ≤ 1 + t3 ∧ 1 + t3 ≤ 256 := by omega
  obtain ⟨bc1, bc2⟩ : 0 ≤ 256 * t4 + t5 ∧ 256 * t4 + t5 ≤ 65535 := by omega
  obtain ⟨bd1, bd2⟩ : 1 ≤ 1 + t6 ∧ 1 + t6 ≤ 256 := by omega
  generalize 256 * t1 + t2 = a at *
  generalize 1 + t3 = b at *
  generalize 256 * t4 + t5 = c at *
  generalize 1 + t6 = d at *
  obtain ⟨x, y, hr, hx0, hx1, hy0, hy1, hg, hm⟩ := ratios_red a b (by omega)
  have hr2 : redOf x y = (x, y, true) := by
    unfold redOf
    rw [if_pos (by omega), hg]
    simp
  have er := impl_reduce a b
  have et := impl_ratText a b
  have et2 := impl_ratText x y
  rw [hr] at er et
  rw [hr2] at et2
  refine Ev.bind er ?_
  rw [cmp_is a b c d (by omega) (by omega)]
  refine Ev.bind (Ev.now _) (Ev.bind et (Ev.bind et2 ?_))
  have hl := ratios_l0 a b c d x y _ (by omega) hg hx0 rfl (y + 1 - 2).toNat 2 (by omega) rfl
  have hbx : x * b ≤ 65535 * 256 := Int.mul_le_mul (by omega) (by omega) (by omega) (by omega)
  have hbx0 : 0 ≤ x * b := Int.mul_nonneg hx0 (by omega)
  have hw : wrap64 (x * b) = wrap64 (a * y) := by rw [hm]
  have hnb : ∀ n : Int, n = (if wrap64 (a * d) < wrap64 (c * b) then -1 else if wrap64 (a * d) > wrap64 (c * b) then 1 else 0) → ¬ n > 1 ∧ ¬ n < -1 := by
    intro n hn
    rw [hn]
    split
    · omega
    · split <;> omega
  generalize hn : (if wrap64 (a * d) < wrap64 (c * b) then (-1 : Int) else if wrap64 (a * d) > wrap64 (c * b) then 1 else 0) = n at hl hnb
  obtain ⟨n1, n2⟩ := hnb n rfl
  show Ev (fun k => if true = true then _ else _) true
  unfold ratOut
  simp only [if_true, if_neg (show ¬ y < 1 by omega), if_pos hw, if_neg n1, decide_eq_false n2]
  exact Ev.step (fun k => by rw [laws_FnRatios.j0, if_neg (by decide)]) hl

end Go.Proofs.YtbfcnacllonnbaaDoor.Pure
