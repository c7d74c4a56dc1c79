/- The program's RatioText returns what the reference's returns, for all numbers. Conditions: those of the card alone. -/
import Derived.Test.YtbfcnacllonnbaaDoorPFnExactRatioTexty
namespace Go.Proofs.YtbfcnacllonnbaaDoor.Pure
open Go.RowKit Go.Proofs.YtbfcnacllonnbaaDoor.PFnExactRatioText Go.Proofs.YtbfcnacllonnbaaDoorW.PrintWords Go.Proofs.YtbfcnacllonnbaaDoorW.PrintLast Go.Proofs.YtbfcnacllonnbaaDoorW.PrintMore
set_option linter.unusedVariables false
set_option linter.unusedSimpArgs false

theorem wid {x : Int} (h1 : -9223372036854775808 ≤ x) (h2 : x < 9223372036854775808) : wrap64 x = x := by unfold wrap64; omega
theorem i64_bd {x : Int} (h : (Lit.int .i64 x).wf = true) : -9223372036854775808 ≤ x ∧ x ≤ 9223372036854775807 := by
  simp only [Lit.wf, IntKind.min, IntKind.max, IntKind.signed, IntKind.bits, Bool.and_eq_true, decide_eq_true_eq, if_true] at h
  omega
/-- A loop's step, its answer known at once. -/
theorem ev_ret {α : Type} {g : Nat → Option α} {r : α} (h : ∀ k, g (k + 1) = some r) : Ev g r := Ev.step (f := fun _ => some r) h (Ev.now r)
theorem ev_all {α : Type} {g : Nat → Option α} {r : α} (h : ∀ k, g k = some r) : Ev g r := ⟨0, fun k _ => h k⟩

theorem ratio_impl (a b : Int) : impl_isRatio.f a b = some (decide (0 ≤ a ∧ a ≤ 1000000000 ∧ 1 ≤ b ∧ b ≤ 1000000000)) := by
  unfold impl_isRatio.f impl_inRange.f
  by_cases h1 : 0 ≤ a <;> by_cases h2 : a ≤ 1000000000 <;> by_cases h3 : 1 ≤ b <;> by_cases h4 : b ≤ 1000000000 <;> simp [h1, h2, h3, h4]

/-- The program's divisor: Euclid's way from the second number on. -/
theorem impl_gcd (n : Nat) : ∀ (a b : Int), 0 ≤ a → 0 ≤ b → b ≤ n → Ev (fun k => impl_divisor.l0 k a b) ((Nat.gcd a.toNat b.toNat : Nat) : Int) := by
  induction n with
  | zero =>
    intro a b ha hb hn
    have hb0 : b = 0 := by omega
    subst hb0
    refine ev_ret (fun k => ?_)
    rw [impl_divisor.l0, if_pos rfl]; simp; omega
  | succ n ih =>
    intro a b ha hb hn
    by_cases h : b = 0
    · subst h
      refine ev_ret (fun k => ?_)
      rw [impl_divisor.l0, if_pos rfl]; simp; omega
    · have hm : Int.tmod a b = a % b := Int.tmod_eq_emod_of_nonneg ha
      have h1 : 0 ≤ a % b := Int.emod_nonneg a h
      have h2 : a % b < b := Int.emod_lt_of_pos a (by omega)
      have e := ih b (a % b) hb h1 (by omega)
      have hg : Nat.gcd a.toNat b.toNat = Nat.gcd b.toNat (a % b).toNat := by
        obtain ⟨x, rfl⟩ := Int.eq_ofNat_of_zero_le ha
        obtain ⟨y, rfl⟩ := Int.eq_ofNat_of_zero_le hb
        rw [← Int.natCast_emod, Int.toNat_natCast, Int.toNat_natCast, Int.toNat_natCast, Nat.gcd_comm, Nat.gcd_rec, Nat.gcd_comm]
      rw [hg]
      refine Ev.step (fun k => ?_) e
      rw [impl_divisor.l0, if_neg h, hm]
theorem gcd_pos {a b : Int} (hb : 1 ≤ b) : (0 : Int) < ((Nat.gcd a.toNat b.toNat : Nat) : Int) := by
  have := Nat.gcd_pos_of_pos_right a.toNat (n := b.toNat) (by omega)
  omega

/-- What both make of two numbers. -/
def redOf (a b : Int) : Int × Int × Bool := if 0 ≤ a ∧ a ≤ 1000000000 ∧ 1 ≤ b ∧ b ≤ 1000000000 then (a / ((Nat.gcd a.toNat b.toNat : Nat) : Int), b / ((Nat.gcd a.toNat b.toNat : Nat) : Int), true) else (0, 0, false)
theorem quo_in {a g : Int} (h0 : 0 ≤ a) (h1 : a ≤ 1000000000) (hg : 0 < g) : wrap64 (Int.tdiv a g) = a / g := by
  rw [Int.tdiv_eq_ediv_of_nonneg h0]
  have h2 := Int.ediv_le_self g h0
  have h3 := Int.ediv_nonneg h0 (show 0 ≤ g by omega)
  exact wid (by omega) (by omega)
theorem impl_reduce (a b : Int) : Ev (fun k => impl_ReduceRatio.f k a b) (redOf a b) := by
  unfold impl_ReduceRatio.f redOf
  simp only [ratio_impl a b, Option.bind_some, decide_eq_true_eq]
  by_cases h : 0 ≤ a ∧ a ≤ 1000000000 ∧ 1 ≤ b ∧ b ≤ 1000000000
  · obtain ⟨h1, h2, h3, h4⟩ := id h
    simp only [if_pos h]
    have hp := gcd_pos (a := a) h3
    refine Ev.bind (impl_gcd b.toNat a b h1 (by omega) (by omega)) (ev_all fun k => ?_)
    rw [if_neg (by omega), quo_in h1 h2 hp, quo_in (by omega) h4 hp]
  · simp only [if_neg h]
    exact Ev.now _

/-! the decimal numeral -/
theorem dd_big {u : Nat} (h : ¬ u < 10) : Go.Lib.decDigits u = Go.Lib.decDigits (u / 10) ++ [UInt8.ofNat (48 + u % 10)] := by rw [Go.Lib.decDigits, dif_neg h]
theorem dd_ind {p : Nat → Prop} (h1 : ∀ u, u < 10 → p u) (h2 : ∀ u, ¬ u < 10 → p (u / 10) → p u) (u : Nat) : p u := by
  induction u using Nat.strongRecOn with
  | _ u ih =>
    by_cases h : u < 10
    · exact h1 u h
    · exact h2 u h (ih (u / 10) (by omega))
theorem dg_nat {d : Nat} (h : d < 10) : (UInt8.ofNat (48 + d)).toNat = 48 + d := by
  have e : (UInt8.ofNat (48 + d)).toNat = (48 + d) % 256 := rfl
  rw [e]; omega
theorem dd_ne (u : Nat) : Go.Lib.decDigits u ≠ [] := by
  refine dd_ind (p := fun u => Go.Lib.decDigits u ≠ []) (fun u h => ?_) (fun u h _ => ?_) u
  · rw [Go.Lib.decDigits_one h]; simp
  · rw [dd_big h]; simp
theorem dd_dig (u : Nat) : ∀ c ∈ Go.Lib.decDigits u, 48 ≤ c.toNat ∧ c.toNat ≤ 57 := by
  refine dd_ind (p := fun u => ∀ c ∈ Go.Lib.decDigits u, 48 ≤ c.toNat ∧ c.toNat ≤ 57) (fun u h c hc => ?_) (fun u h ih c hc => ?_) u
  · rw [Go.Lib.decDigits_one h, List.mem_singleton] at hc
    rw [hc, dg_nat h]; omega
  · rw [dd_big h, List.mem_append, List.mem_singleton] at hc
    rcases hc with hc | hc
    · exact ih c hc
    · rw [hc, dg_nat (by omega)]; omega
def vl (a : Nat) (l : List UInt8) : Nat := l.foldl (fun a c => a * 10 + (c.toNat - 48)) a
theorem vl_cons (a : Nat) (c : UInt8) (l : List UInt8) : vl a (c :: l) = vl (a * 10 + (c.toNat - 48)) l := by unfold vl; rw [List.foldl_cons]
theorem vl_app (a : Nat) (l : List UInt8) (c : UInt8) : vl a (l ++ [c]) = vl a l * 10 + (c.toNat - 48) := by unfold vl; rw [List.foldl_append]; rfl
theorem vl_dd (u : Nat) : vl 0 (Go.Lib.decDigits u) = u := by
  refine dd_ind (p := fun u => vl 0 (Go.Lib.decDigits u) = u) (fun u h => ?_) (fun u h ih => ?_) u
  · rw [Go.Lib.decDigits_one h, vl_cons, dg_nat h]
    show 0 * 10 + (48 + u - 48) = u
    omega
  · rw [dd_big h, vl_app, ih, dg_nat (by omega)]; omega
theorem vl_ge : ∀ (l : List UInt8) (a : Nat), a ≤ vl a l
  | [], a => Nat.le_refl _
  | c :: l, a => by have := vl_ge l (a * 10 + (c.toNat - 48)); rw [vl_cons]; omega
theorem pu_ok : ∀ (l : List UInt8) (acc : Nat), (∀ c ∈ l, 48 ≤ c.toNat ∧ c.toNat ≤ 57) → vl acc l ≤ 1000000000000000000 → Go.Lib.parseUintM (2 ^ 64 - 1) acc l = .ok (vl acc l)
  | [], acc, _, _ => rfl
  | c :: l, acc, h, hv => by
    have hc := h c (List.mem_cons_self ..)
    have hg := vl_ge l (acc * 10 + (c.toNat - 48))
    rw [vl_cons] at hv
    rw [Go.Lib.parseUintM, if_pos hc, if_neg (by omega), if_neg (by omega), vl_cons]
    exact pu_ok l _ (fun c hc => h c (List.mem_cons_of_mem _ hc)) hv
theorem dd_len {u k : Nat} (h : u < 10 ^ (k + 1)) : (Go.Lib.decDigits u).length ≤ k + 1 := by
  induction k generalizing u with
  | zero => rw [Go.Lib.decDigits_one (by simpa using h)]; simp
  | succ k ih =>
    by_cases c : u < 10
    · rw [Go.Lib.decDigits_one c]; simp
    · rw [dd_big c, List.length_append, List.length_singleton]
      have := ih (u := u / 10) (by rw [Nat.pow_succ] at h; omega)
      omega
theorem itoa_len {n : Int} (h1 : -1000000000 ≤ n) (h2 : n ≤ 1000000000) : (Go.Lib.itoa n).length ≤ 11 := by
  unfold Go.Lib.itoa
  split
  · rw [List.length_cons]
    have := dd_len (u := n.natAbs) (k := 9) (by omega)
    omega
  · have := dd_len (u := n.toNat) (k := 9) (by omega)
    omega
theorem itoa_ne (n : Int) : Go.Lib.itoa n ≠ [] := by
  unfold Go.Lib.itoa
  split
  · simp
  · exact dd_ne _
/-- The numeral is read back. -/
theorem parse_itoa {n : Int} (h1 : -1000000000 ≤ n) (h2 : n ≤ 1000000000) : Go.Lib.parseIntB 64 (Go.Lib.itoa n) = .ok n := by
  unfold Go.Lib.itoa
  by_cases c : n < 0
  · rw [if_pos c]
    have e := pu_ok (Go.Lib.decDigits n.natAbs) 0 (dd_dig _) (by rw [vl_dd]; omega)
    rw [vl_dd] at e
    have e2 : Go.Lib.parseUintB 64 (Go.Lib.decDigits n.natAbs) = .ok n.natAbs := by unfold Go.Lib.parseUintB; rw [if_neg (dd_ne _)]; exact e
    unfold Go.Lib.parseIntB
    simp only [show ((45 : UInt8).toNat = 43 ∨ (45 : UInt8).toNat = 45) from Or.inr rfl, if_true, e2]
    rw [if_neg (by rintro ⟨h, -⟩; exact h rfl), if_neg (by rintro ⟨-, h⟩; simp at h; omega), if_pos (show (45 : UInt8).toNat = 45 from rfl)]
    congr 1
    omega
  · rw [if_neg c]
    have e := pu_ok (Go.Lib.decDigits n.toNat) 0 (dd_dig _) (by rw [vl_dd]; omega)
    rw [vl_dd] at e
    have e2 : Go.Lib.parseUintB 64 (Go.Lib.decDigits n.toNat) = .ok n.toNat := by unfold Go.Lib.parseUintB; rw [if_neg (dd_ne _)]; exact e
    have hd := dd_dig n.toNat
    generalize Go.Lib.decDigits n.toNat = l at e2 hd
    cases l with
    | nil => exact absurd e2 (by unfold Go.Lib.parseUintB; rw [if_pos rfl]; simp)
    | cons x l =>
      have hx := hd x (List.mem_cons_self ..)
      unfold Go.Lib.parseIntB
      simp only [show ¬ (x.toNat = 43 ∨ x.toNat = 45) by omega, if_false, e2]
      rw [if_neg (by rintro ⟨-, h⟩; simp at h; omega), if_neg (by rintro ⟨h, -⟩; omega), if_neg (by omega)]
      congr 1
      omega
theorem itoa_inj {n m : Int} (h1 : -1000000000 ≤ n) (h2 : n ≤ 1000000000) (h3 : -1000000000 ≤ m) (h4 : m ≤ 1000000000) (h : Go.Lib.itoa n = Go.Lib.itoa m) : n = m := by
  have a := parse_itoa h1 h2
  rw [h, parse_itoa h3 h4] at a
  injection a with a
  exact a.symm
theorem ba_ext {a b : ByteArray} (h : a.data.toList = b.data.toList) : a = b := by
  cases a with | mk x => cases b with | mk y => exact congrArg ByteArray.mk (Array.toList_inj.1 h)
theorem ba_list (l : List UInt8) : (⟨l.toArray⟩ : ByteArray).data.toList = l := rfl
theorem ba_mk (s : ByteArray) : (⟨s.data.toList.toArray⟩ : ByteArray) = s := ba_ext rfl
theorem ba_size (s : ByteArray) : s.size = s.data.toList.length := by rw [Array.length_toList]; rfl
theorem bt_list (s : ByteArray) (i : Nat) (h : i < s.data.toList.length) : bt s (i : Int) = ((s.data.toList[i]'h).toNat : Int) := by
  have h' : i < s.size := by rw [ba_size]; exact h
  unfold bt
  rw [dif_pos (by rw [Int.toNat_natCast]; exact h')]
  simp only [Int.toNat_natCast, Array.getElem_toList]
  rfl
theorem bt_cons (s : ByteArray) (i : Nat) (c : UInt8) (l : List UInt8) (h : s.data.toList.drop i = c :: l) : i < s.size ∧ bt s (i : Int) = (c.toNat : Int) ∧ s.data.toList.drop (i + 1) = l := by
  have hl : i < s.data.toList.length := by
    have := congrArg List.length h
    rw [List.length_drop, List.length_cons] at this
    omega
  rw [List.drop_eq_getElem_cons hl] at h
  injection h with h1 h2
  refine ⟨by rw [ba_size]; exact hl, ?_, h2⟩
  rw [bt_list s i hl, h1]

/-! the reference's numeral -/
theorem str1 (x : Int) : strOfNums [x] = ⟨#[UInt8.ofNat x.toNat]⟩ := rfl
theorem ba_app (a b : ByteArray) : (a ++ b).data.toList = a.data.toList ++ b.data.toList := by
  rw [ByteArray.data_append, Array.toList_append]
theorem ba_len (a : ByteArray) : a.size = a.data.toList.length := ba_size a
theorem dec_l0 (n : Int) (hn : -9223372036854775808 ≤ n ∧ n ≤ 9223372036854775807) (hz : n ≠ 0) (u : Nat) : ∀ (o : ByteArray) (rest : Int), rest.natAbs = u → -9223372036854775808 ≤ rest ∧ rest ≤ 9223372036854775807 → u < 10 ^ (20 - o.size) → o.size ≤ 20 → (rest = 0 ∨ (n < 0 ↔ rest < 0)) →
    Ev (fun k => spec_l01Dec.l0 k n o rest) ⟨((if n < 0 then [45] else []) ++ (if u = 0 then [] else Go.Lib.decDigits u) ++ o.data.toList).toArray⟩ := by
  induction u using Nat.strongRecOn with
  | _ u ih =>
    intro o rest hu hr hpow ho2 hs
    by_cases c : rest = 0
    · subst c
      have hu0 : u = 0 := by simpa using hu.symm
      subst hu0
      refine ev_ret (fun k => ?_)
      rw [spec_l01Dec.l0, if_pos rfl, if_neg hz]
      by_cases g : n < 0
      · rw [if_pos g, if_pos (by omega), if_pos g]
        exact congrArg some (ba_ext (by rw [ba_app]; simp))
      · rw [if_neg g, if_neg g]
        exact congrArg some (ba_ext (by simp))
    · have hs2 : n < 0 ↔ rest < 0 := by rcases hs with h | h; exact absurd h c; exact h
      have hm := Int.mul_tdiv_add_tmod rest 10
      have hd : (Int.tdiv rest 10).natAbs = u / 10 := by rw [Int.natAbs_tdiv, hu]; rfl
      have hdig : (if Int.tmod rest 10 < 0 then -(Int.tmod rest 10) else Int.tmod rest 10) = ((u % 10 : Nat) : Int) := by
        have e : (Int.tmod rest 10).natAbs = u % 10 := by rw [Int.natAbs_tmod, hu]; rfl
        split <;> omega
      have hu1 : u ≠ 0 := by omega
      have hsg : Int.tdiv rest 10 = 0 ∨ (n < 0 ↔ Int.tdiv rest 10 < 0) := by
        by_cases z : Int.tdiv rest 10 = 0
        · exact Or.inl z
        · refine Or.inr ?_
          have := Int.tmod_lt_of_pos rest (show (0 : Int) < 10 by decide)
          have := Int.lt_tmod_of_pos rest (show (0 : Int) < 10 by decide)
          omega
      have hbd : -9223372036854775808 ≤ Int.tdiv rest 10 ∧ Int.tdiv rest 10 ≤ 9223372036854775807 := by omega
      have hsz : ((⟨#[UInt8.ofNat (48 + u % 10)]⟩ : ByteArray) ++ o).size = o.size + 1 := by rw [ByteArray.size_append]; show 1 + o.size = _; omega
      have hp2 : o.size < 20 := by
        by_cases q : o.size < 20
        · exact q
        · have : o.size = 20 := by omega
          rw [this] at hpow
          omega
      have hpow2 : u / 10 < 10 ^ (20 - (o.size + 1)) := by
        have e : 20 - o.size = (20 - (o.size + 1)) + 1 := by omega
        rw [e, Nat.pow_succ] at hpow
        omega
      have hx := ih (u / 10) (by omega) ((⟨#[UInt8.ofNat (48 + u % 10)]⟩ : ByteArray) ++ o) (Int.tdiv rest 10) hd hbd (by rw [hsz]; exact hpow2) (by rw [hsz]; omega) hsg
      have er : (if n < 0 then ([45] : List UInt8) else []) ++ (if u / 10 = 0 then [] else Go.Lib.decDigits (u / 10)) ++ ((⟨#[UInt8.ofNat (48 + u % 10)]⟩ : ByteArray) ++ o).data.toList = (if n < 0 then [45] else []) ++ (if u = 0 then [] else Go.Lib.decDigits u) ++ o.data.toList := by
        rw [ba_app, if_neg hu1]
        by_cases s : u < 10
        · rw [if_pos (show u / 10 = 0 by omega), Go.Lib.decDigits_one s, show u % 10 = u by omega]
          simp
        · rw [if_neg (show ¬ u / 10 = 0 by omega), dd_big s]
          simp
      rw [er] at hx
      refine Ev.step (fun k => ?_) hx
      rw [spec_l01Dec.l0, if_neg c]
      have hw : wrap64 (Int.tdiv rest 10) = Int.tdiv rest 10 := wid hbd.1 (by omega)
      have ht := Int.tmod_lt_of_pos rest (show (0 : Int) < 10 by decide)
      have ht2 := Int.lt_tmod_of_pos rest (show (0 : Int) < 10 by decide)
      have hg : ∀ x : Int, x = ((u % 10 : Nat) : Int) → strOfNums [(wrap64 (48 + x)) % 256] = ⟨#[UInt8.ofNat (48 + u % 10)]⟩ := by
        intro x hx
        have e : ((wrap64 (48 + x)) % 256).toNat = 48 + u % 10 := by rw [wid (by omega) (by omega)]; omega
        rw [str1, e]
      by_cases g : Int.tmod rest 10 < 0
      · rw [if_pos g] at hdig
        rw [if_pos g, Option.bind_some, wid (x := -(Int.tmod rest 10)) (by omega) (by omega), hg _ hdig, if_pos (by show 1 + o.size ≤ _; omega), hw]
      · rw [if_neg g] at hdig
        rw [if_neg g, Option.bind_some, hg _ hdig, if_pos (by show 1 + o.size ≤ _; omega), hw]
theorem dec_is (n : Int) (h0 : -9223372036854775808 ≤ n) (h1 : n ≤ 9223372036854775807) : Ev (fun k => spec_l01Dec.f k n) ⟨(Go.Lib.itoa n).toArray⟩ := by
  by_cases hz : n = 0
  · subst hz
    refine ev_ret (fun k => ?_)
    unfold spec_l01Dec.f
    rw [spec_l01Dec.l0, if_pos rfl, if_pos rfl]
    have : Go.Lib.itoa 0 = [48] := by unfold Go.Lib.itoa; rw [if_neg (by decide)]; exact Go.Lib.decDigits_one (by decide)
    rw [this]
  · have hx := dec_l0 n ⟨h0, h1⟩ hz n.natAbs ⟨#[]⟩ n rfl ⟨h0, h1⟩ (by show n.natAbs < 10 ^ 20; omega) (by show 0 ≤ 20; omega) (Or.inr Iff.rfl)
    have e : ((if n < 0 then ([45] : List UInt8) else []) ++ (if n.natAbs = 0 then [] else Go.Lib.decDigits n.natAbs) ++ (⟨#[]⟩ : ByteArray).data.toList) = Go.Lib.itoa n := by
      unfold Go.Lib.itoa
      rw [if_neg (show ¬ n.natAbs = 0 by omega)]
      by_cases g : n < 0
      · rw [if_pos g, if_pos g]; simp
      · rw [if_neg g, if_neg g, show n.natAbs = n.toNat by omega]; simp
    rw [e] at hx
    exact hx
/-- The numeral's text. -/
def decT (n : Int) : ByteArray := ⟨(Go.Lib.itoa n).toArray⟩

theorem impl_dec (n : Int) (h0 : -9223372036854775808 ≤ n) (h1 : n ≤ 9223372036854775807) : impl_Decimal.f n = some (decT n) := by unfold impl_Decimal.f; rw [if_pos ⟨h0, h1⟩]; rfl

/-! the text of a ratio -/
def ratT (x y : Int) : ByteArray := if y = 1 then decT x else (decT x ++ (⟨#[47]⟩ : ByteArray)) ++ decT y
def ratOut (r : Int × Int × Bool) : ByteArray × Bool := if r.2.2 = true then (ratT r.1 r.2.1, true) else (⟨#[]⟩, false)
theorem decT_size {n : Int} (h1 : -1000000000 ≤ n) (h2 : n ≤ 1000000000) : (decT n).size ≤ 11 := by
  rw [ba_size]; exact itoa_len h1 h2
theorem red_bd {a b : Int} (h : 0 ≤ a ∧ a ≤ 1000000000 ∧ 1 ≤ b ∧ b ≤ 1000000000) : 0 ≤ a / ((Nat.gcd a.toNat b.toNat : Nat) : Int) ∧ a / ((Nat.gcd a.toNat b.toNat : Nat) : Int) ≤ 1000000000 ∧ 1 ≤ b / ((Nat.gcd a.toNat b.toNat : Nat) : Int) ∧ b / ((Nat.gcd a.toNat b.toNat : Nat) : Int) ≤ 1000000000 := by
  obtain ⟨h1, h2, h3, h4⟩ := h
  have hp := gcd_pos (a := a) h3
  have e1 := Int.ediv_le_self ((Nat.gcd a.toNat b.toNat : Nat) : Int) h1
  have e2 := Int.ediv_le_self ((Nat.gcd a.toNat b.toNat : Nat) : Int) (show 0 ≤ b by omega)
  have e3 := Int.ediv_nonneg h1 (show 0 ≤ ((Nat.gcd a.toNat b.toNat : Nat) : Int) by omega)
  have hd : Nat.gcd a.toNat b.toNat ≤ b.toNat := Nat.gcd_le_right _ (by omega)
  have e4 : 1 ≤ b / ((Nat.gcd a.toNat b.toNat : Nat) : Int) := by
    rw [Int.le_ediv_iff_mul_le hp]; omega
  omega
theorem impl_ratText (a b : Int) : Ev (fun k => impl_RatioText.f k a b) (ratOut (redOf a b)) := by
  unfold impl_RatioText.f
  refine Ev.bind (impl_reduce a b) (ev_all fun k => ?_)
  unfold redOf ratOut
  by_cases h : 0 ≤ a ∧ a ≤ 1000000000 ∧ 1 ≤ b ∧ b ≤ 1000000000
  · rw [if_pos h]
    have hb := red_bd h
    generalize a / ((Nat.gcd a.toNat b.toNat : Nat) : Int) = x at hb
    generalize b / ((Nat.gcd a.toNat b.toNat : Nat) : Int) = y at hb
    have s1 := decT_size (n := x) (by omega) (by omega)
    have s2 := decT_size (n := y) (by omega) (by omega)
    show (if true = true then _ else _) = some (if true = true then _ else _)
    rw [if_pos rfl, if_pos rfl]
    show (if y = 1 then _ else _) = some (ratT x y, true)
    unfold ratT
    by_cases c : y = 1
    · rw [if_pos c, if_pos c]
      show (impl_Decimal.f x).bind _ = _
      rw [impl_dec x (by omega) (by omega), Option.bind_some]
    · rw [if_neg c, if_neg c]
      show (impl_Decimal.f x).bind _ = _
      rw [impl_dec x (by omega) (by omega), Option.bind_some, if_pos (by omega)]
      show (impl_Decimal.f y).bind _ = _
      rw [impl_dec y (by omega) (by omega), Option.bind_some, if_pos (by rw [ByteArray.size_append]; show (decT x).size + 1 + (decT y).size ≤ _; omega)]
  · rw [if_neg h]; rfl

theorem spec_gcd (n : Nat) : ∀ (a b : Int), 0 ≤ a → 0 ≤ b → a ≤ n → Ev (fun k => spec_l01Divisor.l0 k a b) ((Nat.gcd a.toNat b.toNat : Nat) : Int) := by
  induction n with
  | zero =>
    intro a b ha hb hn
    have ha0 : a = 0 := by omega
    subst ha0
    refine ev_ret (fun k => ?_)
    rw [spec_l01Divisor.l0, if_neg (by omega)]; simp; omega
  | succ n ih =>
    intro a b ha hb hn
    by_cases h : a = 0
    · subst h
      refine ev_ret (fun k => ?_)
      rw [spec_l01Divisor.l0, if_neg (by omega)]; simp; omega
    · have hm : Int.tmod b a = b % a := Int.tmod_eq_emod_of_nonneg hb
      have h1 : 0 ≤ b % a := Int.emod_nonneg b h
      have h2 : b % a < a := Int.emod_lt_of_pos b (by omega)
      have e := ih (b % a) a h1 ha (by omega)
      have hg : Nat.gcd a.toNat b.toNat = Nat.gcd (b % a).toNat a.toNat := by
        obtain ⟨x, rfl⟩ := Int.eq_ofNat_of_zero_le ha
        obtain ⟨y, rfl⟩ := Int.eq_ofNat_of_zero_le hb
        rw [← Int.natCast_emod, Int.toNat_natCast, Int.toNat_natCast, Int.toNat_natCast, Nat.gcd_rec]
      rw [hg]
      refine Ev.step (fun k => ?_) e
      rw [spec_l01Divisor.l0, if_pos (by omega), if_neg h, hm]

theorem ratio_spec (a b : Int) : spec_l01Ratio.f a b = some (decide (0 ≤ a ∧ a ≤ 1000000000 ∧ 1 ≤ b ∧ b ≤ 1000000000)) := by
  unfold spec_l01Ratio.f spec_l00In.f
  by_cases h1 : 0 ≤ a <;> by_cases h2 : a ≤ 1000000000 <;> by_cases h3 : 1 ≤ b <;> by_cases h4 : b ≤ 1000000000 <;> simp [h1, h2, h3, h4]
theorem spec_ratText (a b : Int) : Ev (fun k => spec_RatioText.f k a b) (ratOut (redOf a b)) := by
  unfold spec_RatioText.f
  simp only [ratio_spec, Option.bind_some, decide_eq_true_eq]
  unfold redOf
  by_cases h : 0 ≤ a ∧ a ≤ 1000000000 ∧ 1 ≤ b ∧ b ≤ 1000000000
  · simp only [if_pos h]
    have hb := red_bd h
    have hp := gcd_pos (a := a) h.2.2.1
    refine Ev.bind (a := ratT (a / ((Nat.gcd a.toNat b.toNat : Nat) : Int)) (b / ((Nat.gcd a.toNat b.toNat : Nat) : Int))) ?_ (Ev.now _)
    unfold spec_l01RatioText.f
    refine Ev.bind (spec_gcd a.toNat a b h.1 (by omega) (by omega)) ?_
    have q1 := quo_in h.1 h.2.1 hp
    have q2 := quo_in (a := b) (by omega) h.2.2.2 hp
    have s1 := decT_size (n := a / ((Nat.gcd a.toNat b.toNat : Nat) : Int)) (by omega) (by omega)
    have s2 := decT_size (n := b / ((Nat.gcd a.toNat b.toNat : Nat) : Int)) (by omega) (by omega)
    have hd : ((Nat.gcd a.toNat b.toNat : Nat) : Int) ∣ b := by
      have := Int.natCast_dvd_natCast.2 (Nat.gcd_dvd_right a.toNat b.toNat)
      rwa [Int.toNat_of_nonneg (by omega)] at this
    have hm := Int.ediv_mul_cancel hd
    simp only [q1, q2]
    generalize hx : a / ((Nat.gcd a.toNat b.toNat : Nat) : Int) = x at *
    generalize hy : b / ((Nat.gcd a.toNat b.toNat : Nat) : Int) = y at *
    generalize ((Nat.gcd a.toNat b.toNat : Nat) : Int) = g at *
    have e0 : ¬ g = 0 := by omega
    simp only [if_neg e0]
    unfold ratT
    by_cases c : b = g
    · have hy1 : y = 1 := by
        subst c
        rw [← hy]; exact Int.ediv_self (by omega)
      simp only [if_pos c, if_pos hy1]
      exact Ev.bind (dec_is x (by omega) (by omega)) (Ev.now _)
    · have hy1 : ¬ y = 1 := by
        intro e
        rw [e, Int.one_mul] at hm
        exact c hm.symm
      simp only [if_neg c, if_neg hy1]
      refine Ev.bind (a := decT x) (dec_is x (by omega) (by omega)) ?_
      simp only [if_pos (show (decT x).size + 1 ≤ 9223372036854775807 by omega)]
      refine Ev.bind (a := decT y) (dec_is y (by omega) (by omega)) (ev_all fun k => ?_)
      rw [if_pos (by rw [ByteArray.size_append]; show (decT x).size + 1 + (decT y).size ≤ _; omega)]
  · simp only [if_neg h]
    exact Ev.now _
theorem FnExactRatioText : laws_FnExactRatioText.Pure := by
  intro a b _ _
  refine Ev.rounds (r := true) ?_
  unfold laws_FnExactRatioText.f
  refine Ev.bind (spec_ratText a b) (Ev.bind (impl_ratText a b) (ev_all fun k => ?_))
  rw [if_pos rfl, if_neg (by simp)]

end Go.Proofs.YtbfcnacllonnbaaDoor.Pure
