/- The program's ReadDecimal returns what the reference's returns, for every text. Conditions: those of the card alone. -/
import Derived.Test.YtbfcnacllonnbaaDoorPFnExactReadDecimaly
namespace Go.Proofs.YtbfcnacllonnbaaDoor.Pure
open Go.RowKit Go.Proofs.YtbfcnacllonnbaaDoor.PFnExactReadDecimal Go.Proofs.YtbfcnacllonnbaaDoorW.PrintWords Go.Proofs.YtbfcnacllonnbaaDoorW.PrintLast Go.Proofs.YtbfcnacllonnbaaDoorW.PrintMore
set_option linter.unusedVariables false
set_option linter.unusedSimpArgs false

theorem wid {x : Int} (h1 : -9223372036854775808 ≤ x) (h2 : x < 9223372036854775808) : wrap64 x = x := by unfold wrap64; omega
theorem i64_bd {x : Int} (h : (Lit.int .i64 x).wf = true) : -9223372036854775808 ≤ x ∧ x ≤ 9223372036854775807 := by
  simp only [Lit.wf, IntKind.min, IntKind.max, IntKind.signed, IntKind.bits, Bool.and_eq_true, decide_eq_true_eq, if_true] at h
  omega
/-- A loop's step, its answer known at once. -/
theorem ev_ret {α : Type} {g : Nat → Option α} {r : α} (h : ∀ k, g (k + 1) = some r) : Ev g r := Ev.step (f := fun _ => some r) h (Ev.now r)
theorem ev_all {α : Type} {g : Nat → Option α} {r : α} (h : ∀ k, g k = some r) : Ev g r := ⟨0, fun k _ => h k⟩

/-! the decimal numeral -/
theorem dd_big {u : Nat} (h : ¬ u < 10) : Go.Lib.decDigits u = Go.Lib.decDigits (u / 10) ++ [UInt8.ofNat (48 + u % 10)] := by rw [Go.Lib.decDigits, dif_neg h]
theorem dd_ind {p : Nat → Prop} (h1 : ∀ u, u < 10 → p u) (h2 : ∀ u, ¬ u < 10 → p (u / 10) → p u) (u : Nat) : p u := by
  induction u using Nat.strongRecOn with
  | _ u ih =>
    by_cases h : u < 10
    · exact h1 u h
    · exact h2 u h (ih (u / 10) (by omega))
theorem dg_nat {d : Nat} (h : d < 10) : (UInt8.ofNat (48 + d)).toNat = 48 + d := by
  have e : (UInt8.ofNat (48 + d)).toNat = (48 + d) % 256 := rfl
  rw [e]; omega
theorem dd_ne (u : Nat) : Go.Lib.decDigits u ≠ [] := by
  refine dd_ind (p := fun u => Go.Lib.decDigits u ≠ []) (fun u h => ?_) (fun u h _ => ?_) u
  · rw [Go.Lib.decDigits_one h]; simp
  · rw [dd_big h]; simp
theorem dd_dig (u : Nat) : ∀ c ∈ Go.Lib.decDigits u, 48 ≤ c.toNat ∧ c.toNat ≤ 57 := by
  refine dd_ind (p := fun u => ∀ c ∈ Go.Lib.decDigits u, 48 ≤ c.toNat ∧ c.toNat ≤ 57) (fun u h c hc => ?_) (fun u h ih c hc => ?_) u
  · rw [Go.Lib.decDigits_one h, List.mem_singleton] at hc
    rw [hc, dg_nat h]; omega
  · rw [dd_big h, List.mem_append, List.mem_singleton] at hc
    rcases hc with hc | hc
    · exact ih c hc
    · rw [hc, dg_nat (by omega)]; omega
def vl (a : Nat) (l : List UInt8) : Nat := l.foldl (fun a c => a * 10 + (c.toNat - 48)) a
theorem vl_cons (a : Nat) (c : UInt8) (l : List UInt8) : vl a (c :: l) = vl (a * 10 + (c.toNat - 48)) l := by unfold vl; rw [List.foldl_cons]
theorem vl_app (a : Nat) (l : List UInt8) (c : UInt8) : vl a (l ++ [c]) = vl a l * 10 + (c.toNat - 48) := by unfold vl; rw [List.foldl_append]; rfl
theorem vl_dd (u : Nat) : vl 0 (Go.Lib.decDigits u) = u := by
  refine dd_ind (p := fun u => vl 0 (Go.Lib.decDigits u) = u) (fun u h => ?_) (fun u h ih => ?_) u
  · rw [Go.Lib.decDigits_one h, vl_cons, dg_nat h]
    show 0 * 10 + (48 + u - 48) = u
    omega
  · rw [dd_big h, vl_app, ih, dg_nat (by omega)]; omega
theorem vl_ge : ∀ (l : List UInt8) (a : Nat), a ≤ vl a l
  | [], a => Nat.le_refl _
  | c :: l, a => by have := vl_ge l (a * 10 + (c.toNat - 48)); rw [vl_cons]; omega
theorem pu_ok : ∀ (l : List UInt8) (acc : Nat), (∀ c ∈ l, 48 ≤ c.toNat ∧ c.toNat ≤ 57) → vl acc l ≤ 1000000000000000000 → Go.Lib.parseUintM (2 ^ 64 - 1) acc l = .ok (vl acc l)
  | [], acc, _, _ => rfl
  | c :: l, acc, h, hv => by
    have hc := h c (List.mem_cons_self ..)
    have hg := vl_ge l (acc * 10 + (c.toNat - 48))
    rw [vl_cons] at hv
    rw [Go.Lib.parseUintM, if_pos hc, if_neg (by omega), if_neg (by omega), vl_cons]
    exact pu_ok l _ (fun c hc => h c (List.mem_cons_of_mem _ hc)) hv
theorem dd_len {u k : Nat} (h : u < 10 ^ (k + 1)) : (Go.Lib.decDigits u).length ≤ k + 1 := by
  induction k generalizing u with
  | zero => rw [Go.Lib.decDigits_one (by simpa using h)]; simp
  | succ k ih =>
    by_cases c : u < 10
    · rw [Go.Lib.decDigits_one c]; simp
    · rw [dd_big c, List.length_append, List.length_singleton]
      have := ih (u := u / 10) (by rw [Nat.pow_succ] at h; omega)
      omega
theorem itoa_len {n : Int} (h1 : -1000000000 ≤ n) (h2 : n ≤ 1000000000) : (Go.Lib.itoa n).length ≤ 11 := by
  unfold Go.Lib.itoa
  split
  · rw [List.length_cons]
    have := dd_len (u := n.natAbs) (k := 9) (by omega)
    omega
  · have := dd_len (u := n.toNat) (k := 9) (by omega)
    omega
theorem itoa_ne (n : Int) : Go.Lib.itoa n ≠ [] := by
  unfold Go.Lib.itoa
  split
  · simp
  · exact dd_ne _
/-- The numeral is read back. -/
theorem parse_itoa {n : Int} (h1 : -1000000000 ≤ n) (h2 : n ≤ 1000000000) : Go.Lib.parseIntB 64 (Go.Lib.itoa n) = .ok n := by
  unfold Go.Lib.itoa
  by_cases c : n < 0
  · rw [if_pos c]
    have e := pu_ok (Go.Lib.decDigits n.natAbs) 0 (dd_dig _) (by rw [vl_dd]; omega)
    rw [vl_dd] at e
    have e2 : Go.Lib.parseUintB 64 (Go.Lib.decDigits n.natAbs) = .ok n.natAbs := by unfold Go.Lib.parseUintB; rw [if_neg (dd_ne _)]; exact e
    unfold Go.Lib.parseIntB
    simp only [show ((45 : UInt8).toNat = 43 ∨ (45 : UInt8).toNat = 45) from Or.inr rfl, if_true, e2]
    rw [if_neg (by rintro ⟨h, -⟩; exact h rfl), if_neg (by rintro ⟨-, h⟩; simp at h; omega), if_pos (show (45 : UInt8).toNat = 45 from rfl)]
    congr 1
    omega
  · rw [if_neg c]
    have e := pu_ok (Go.Lib.decDigits n.toNat) 0 (dd_dig _) (by rw [vl_dd]; omega)
    rw [vl_dd] at e
    have e2 : Go.Lib.parseUintB 64 (Go.Lib.decDigits n.toNat) = .ok n.toNat := by unfold Go.Lib.parseUintB; rw [if_neg (dd_ne _)]; exact e
    have hd := dd_dig n.toNat
    generalize Go.Lib.decDigits n.toNat = l at e2 hd
    cases l with
    | nil => exact absurd e2 (by unfold Go.Lib.parseUintB; rw [if_pos rfl]; simp)
    | cons x l =>
      have hx := hd x (List.mem_cons_self ..)
      unfold Go.Lib.parseIntB
      simp only [show ¬ (x.toNat = 43 ∨ x.toNat = 45) by omega, if_false, e2]
      rw [if_neg (by rintro ⟨-, h⟩; simp at h; omega), if_neg (by rintro ⟨h, -⟩; omega), if_neg (by omega)]
      congr 1
      omega
theorem itoa_inj {n m : Int} (h1 : -1000000000 ≤ n) (h2 : n ≤ 1000000000) (h3 : -1000000000 ≤ m) (h4 : m ≤ 1000000000) (h : Go.Lib.itoa n = Go.Lib.itoa m) : n = m := by
  have a := parse_itoa h1 h2
  rw [h, parse_itoa h3 h4] at a
  injection a with a
  exact a.symm
theorem ba_ext {a b : ByteArray} (h : a.data.toList = b.data.toList) : a = b := by
  cases a with | mk x => cases b with | mk y => exact congrArg ByteArray.mk (Array.toList_inj.1 h)
theorem ba_list (l : List UInt8) : (⟨l.toArray⟩ : ByteArray).data.toList = l := rfl
theorem ba_mk (s : ByteArray) : (⟨s.data.toList.toArray⟩ : ByteArray) = s := ba_ext rfl
theorem ba_size (s : ByteArray) : s.size = s.data.toList.length := by rw [Array.length_toList]; rfl
theorem bt_list (s : ByteArray) (i : Nat) (h : i < s.data.toList.length) : bt s (i : Int) = ((s.data.toList[i]'h).toNat : Int) := by
  have h' : i < s.size := by rw [ba_size]; exact h
  unfold bt
  rw [dif_pos (by rw [Int.toNat_natCast]; exact h')]
  simp only [Int.toNat_natCast, Array.getElem_toList]
  rfl
theorem bt_cons (s : ByteArray) (i : Nat) (c : UInt8) (l : List UInt8) (h : s.data.toList.drop i = c :: l) : i < s.size ∧ bt s (i : Int) = (c.toNat : Int) ∧ s.data.toList.drop (i + 1) = l := by
  have hl : i < s.data.toList.length := by
    have := congrArg List.length h
    rw [List.length_drop, List.length_cons] at this
    omega
  rw [List.drop_eq_getElem_cons hl] at h
  injection h with h1 h2
  refine ⟨by rw [ba_size]; exact hl, ?_, h2⟩
  rw [bt_list s i hl, h1]

/-! the reference's numeral -/
theorem str1 (x : Int) : strOfNums [x] = ⟨#[UInt8.ofNat x.toNat]⟩ := rfl
theorem ba_app (a b : ByteArray) : (a ++ b).data.toList = a.data.toList ++ b.data.toList := by
  rw [ByteArray.data_append, Array.toList_append]
theorem ba_len (a : ByteArray) : a.size = a.data.toList.length := ba_size a
theorem dec_l0 (n : Int) (hn : -9223372036854775808 ≤ n ∧ n ≤ 9223372036854775807) (hz : n ≠ 0) (u : Nat) : ∀ (o : ByteArray) (rest : Int), rest.natAbs = u → -9223372036854775808 ≤ rest ∧ rest ≤ 9223372036854775807 → u < 10 ^ (20 - o.size) → o.size ≤ 20 → (rest = 0 ∨ (n < 0 ↔ rest < 0)) →
    Ev (fun k => spec_l01Dec.l0 k n o rest) ⟨((if n < 0 then [45] else []) ++ (if u = 0 then [] else Go.Lib.decDigits u) ++ o.data.toList).toArray⟩ := by
  induction u using Nat.strongRecOn with
  | _ u ih =>
    intro o rest hu hr hpow ho2 hs
    by_cases c : rest = 0
    · subst c
      have hu0 : u = 0 := by simpa using hu.symm
      subst hu0
      refine ev_ret (fun k => ?_)
      rw [spec_l01Dec.l0, if_pos rfl, if_neg hz]
      by_cases g : n < 0
      · rw [if_pos g, if_pos (by omega), if_pos g]
        exact congrArg some (ba_ext (by rw [ba_app]; simp))
      · rw [if_neg g, if_neg g]
        exact congrArg some (ba_ext (by simp))
    · have hs2 : n < 0 ↔ rest < 0 := by rcases hs with h | h; exact absurd h c; exact h
      have hm := Int.mul_tdiv_add_tmod rest 10
      have hd : (Int.tdiv rest 10).natAbs = u / 10 := by rw [Int.natAbs_tdiv, hu]; rfl
      have hdig : (if Int.tmod rest 10 < 0 then -(Int.tmod rest 10) else Int.tmod rest 10) = ((u % 10 : Nat) : Int) := by
        have e : (Int.tmod rest 10).natAbs = u % 10 := by rw [Int.natAbs_tmod, hu]; rfl
        split <;> omega
      have hu1 : u ≠ 0 := by omega
      have hsg : Int.tdiv rest 10 = 0 ∨ (n < 0 ↔ Int.tdiv rest 10 < 0) := by
        by_cases z : Int.tdiv rest 10 = 0
        · exact Or.inl z
        · refine Or.inr ?_
          have := Int.tmod_lt_of_pos rest (show (0 : Int) < 10 by decide)
          have := Int.lt_tmod_of_pos rest (show (0 : Int) < 10 by decide)
          omega
      have hbd : -9223372036854775808 ≤ Int.tdiv rest 10 ∧ Int.tdiv rest 10 ≤ 9223372036854775807 := by omega
      have hsz : ((⟨#[UInt8.ofNat (48 + u % 10)]⟩ : ByteArray) ++ o).size = o.size + 1 := by rw [ByteArray.size_append]; show 1 + o.size = _; omega
      have hp2 : o.size < 20 := by
        by_cases q : o.size < 20
        · exact q
        · have : o.size = 20 := by omega
          rw [this] at hpow
          omega
      have hpow2 : u / 10 < 10 ^ (20 - (o.size + 1)) := by
        have e : 20 - o.size = (20 - (o.size + 1)) + 1 := by omega
        rw [e, Nat.pow_succ] at hpow
        omega
      have hx := ih (u / 10) (by omega) ((⟨#[UInt8.ofNat (48 + u % 10)]⟩ : ByteArray) ++ o) (Int.tdiv rest 10) hd hbd (by rw [hsz]; exact hpow2) (by rw [hsz]; omega) hsg
      have er : (if n < 0 then ([45] : List UInt8) else []) ++ (if u / 10 = 0 then [] else Go.Lib.decDigits (u / 10)) ++ ((⟨#[UInt8.ofNat (48 + u % 10)]⟩ : ByteArray) ++ o).data.toList = (if n < 0 then [45] else []) ++ (if u = 0 then [] else Go.Lib.decDigits u) ++ o.data.toList := by
        rw [ba_app, if_neg hu1]
        by_cases s : u < 10
        · rw [if_pos (show u / 10 = 0 by omega), Go.Lib.decDigits_one s, show u % 10 = u by omega]
          simp
        · rw [if_neg (show ¬ u / 10 = 0 by omega), dd_big s]
          simp
      rw [er] at hx
      refine Ev.step (fun k => ?_) hx
      rw [spec_l01Dec.l0, if_neg c]
      have hw : wrap64 (Int.tdiv rest 10) = Int.tdiv rest 10 := wid hbd.1 (by omega)
      have ht := Int.tmod_lt_of_pos rest (show (0 : Int) < 10 by decide)
      have ht2 := Int.lt_tmod_of_pos rest (show (0 : Int) < 10 by decide)
      have hg : ∀ x : Int, x = ((u % 10 : Nat) : Int) → strOfNums [(wrap64 (48 + x)) % 256] = ⟨#[UInt8.ofNat (48 + u % 10)]⟩ := by
        intro x hx
        have e : ((wrap64 (48 + x)) % 256).toNat = 48 + u % 10 := by rw [wid (by omega) (by omega)]; omega
        rw [str1, e]
      by_cases g : Int.tmod rest 10 < 0
      · rw [if_pos g] at hdig
        rw [if_pos g, Option.bind_some, wid (x := -(Int.tmod rest 10)) (by omega) (by omega), hg _ hdig, if_pos (by show 1 + o.size ≤ _; omega), hw]
      · rw [if_neg g] at hdig
        rw [if_neg g, Option.bind_some, hg _ hdig, if_pos (by show 1 + o.size ≤ _; omega), hw]
theorem dec_is (n : Int) (h0 : -9223372036854775808 ≤ n) (h1 : n ≤ 9223372036854775807) : Ev (fun k => spec_l01Dec.f k n) ⟨(Go.Lib.itoa n).toArray⟩ := by
  by_cases hz : n = 0
  · subst hz
    refine ev_ret (fun k => ?_)
    unfold spec_l01Dec.f
    rw [spec_l01Dec.l0, if_pos rfl, if_pos rfl]
    have : Go.Lib.itoa 0 = [48] := by unfold Go.Lib.itoa; rw [if_neg (by decide)]; exact Go.Lib.decDigits_one (by decide)
    rw [this]
  · have hx := dec_l0 n ⟨h0, h1⟩ hz n.natAbs ⟨#[]⟩ n rfl ⟨h0, h1⟩ (by show n.natAbs < 10 ^ 20; omega) (by show 0 ≤ 20; omega) (Or.inr Iff.rfl)
    have e : ((if n < 0 then ([45] : List UInt8) else []) ++ (if n.natAbs = 0 then [] else Go.Lib.decDigits n.natAbs) ++ (⟨#[]⟩ : ByteArray).data.toList) = Go.Lib.itoa n := by
      unfold Go.Lib.itoa
      rw [if_neg (show ¬ n.natAbs = 0 by omega)]
      by_cases g : n < 0
      · rw [if_pos g, if_pos g]; simp
      · rw [if_neg g, if_neg g, show n.natAbs = n.toNat by omega]; simp
    rw [e] at hx
    exact hx
/-- The numeral's text. -/
def decT (n : Int) : ByteArray := ⟨(Go.Lib.itoa n).toArray⟩

theorem impl_dec (n : Int) (h0 : -9223372036854775808 ≤ n) (h1 : n ≤ 9223372036854775807) : impl_Decimal.f n = some (decT n) := by unfold impl_Decimal.f; rw [if_pos ⟨h0, h1⟩]; rfl

/-! ReadDecimal, the program's and the reference's -/
def isNum (s : ByteArray) (v : Int) : Prop := -1000000000 ≤ v ∧ v ≤ 1000000000 ∧ Go.Lib.itoa v = s.data.toList
theorem impl_rd_yes (s : ByteArray) (v : Int) (h : isNum s v) : impl_ReadDecimal.out s = (v, true) := by
  unfold impl_ReadDecimal.out
  rw [← h.2.2, parse_itoa h.1 h.2.1]
  show (if (-1000000000 ≤ v ∧ v ≤ 1000000000) ∧ (⟨(Go.Lib.itoa v).toArray⟩ : ByteArray).toList = s.toList then (v, true) else (0, false)) = (v, true)
  rw [if_pos ⟨⟨h.1, h.2.1⟩, by rw [ByteArray.toList_eq, ByteArray.toList_eq, h.2.2]⟩]
theorem impl_rd_no (s : ByteArray) (h : ∀ v, ¬ isNum s v) : impl_ReadDecimal.out s = (0, false) := by
  unfold impl_ReadDecimal.out
  split
  · rename_i v e
    rw [if_neg]
    rintro ⟨⟨a, b⟩, c⟩
    rw [ByteArray.toList_eq, ByteArray.toList_eq] at c
    exact h v ⟨a, b, c⟩
  · rfl
/-- What the reference reads, digit by digit. -/
def sv : Int → List UInt8 → Int
  | a, [] => a
  | a, c :: l => sv (if 48 ≤ c.toNat ∧ c.toNat ≤ 57 then 10 * a + ((c.toNat : Int) - 48) else a) l
theorem sv_vl : ∀ (l : List UInt8) (a : Nat), (∀ c ∈ l, 48 ≤ c.toNat ∧ c.toNat ≤ 57) → sv (a : Int) l = (vl a l : Int)
  | [], a, _ => rfl
  | c :: l, a, h => by
    have hc := h c (List.mem_cons_self ..)
    rw [sv, if_pos hc, vl_cons, show 10 * (a : Int) + ((c.toNat : Int) - 48) = ((a * 10 + (c.toNat - 48) : Nat) : Int) by omega]
    exact sv_vl l _ (fun c hc => h c (List.mem_cons_of_mem _ hc))
theorem sv_bd : ∀ (l : List UInt8) (a : Int) (n : Nat), 0 ≤ a → a < 10 ^ n → 0 ≤ sv a l ∧ sv a l < 10 ^ (n + l.length)
  | [], a, n, h0, h1 => ⟨h0, h1⟩
  | c :: l, a, n, h0, h1 => by
    rw [sv]
    have : n + (c :: l).length = (n + 1) + l.length := by rw [List.length_cons]; omega
    rw [this]
    have e : (10 : Int) ^ (n + 1) = 10 * 10 ^ n := by rw [Int.pow_succ]; omega
    split
    · exact sv_bd l _ (n + 1) (by omega) (by omega)
    · exact sv_bd l _ (n + 1) h0 (by omega)
theorem p10 (i : Nat) (h : i ≤ 11) : (10 : Int) ^ i ≤ 100000000000 := by
  have h1 := Nat.pow_le_pow_right (show 0 < 10 by decide) h
  have h2 : ((10 ^ i : Nat) : Int) = (10 : Int) ^ i := by rw [Int.natCast_pow]; rfl
  have h3 : 10 ^ 11 = 100000000000 := by decide
  rw [← h2]
  omega
def sgn (l : List UInt8) (x : Int) : Int := if l.head? = some 45 then -x else x
theorem rd_num (s : ByteArray) (hs : s.size ≤ 11) (x : Int) (h0 : 0 ≤ x) (h1 : x < 10 ^ 11) : Ev (fun k => spec_l01Value.l0 k s x (s.size : Int)) (if -1000000000 ≤ sgn s.data.toList x ∧ sgn s.data.toList x ≤ 1000000000 ∧ Go.Lib.itoa (sgn s.data.toList x) = s.data.toList then (sgn s.data.toList x, true) else (0, false)) := by
  have hx : x < 100000000000 := by have : (10 : Int) ^ 11 = 100000000000 := by decide
                                   omega
  have key : ∀ y : Int, -100000000000 < y → y < 100000000000 → Ev (fun k => spec_l01Value.j2 k s y) (if -1000000000 ≤ y ∧ y ≤ 1000000000 ∧ Go.Lib.itoa y = s.data.toList then (y, true) else (0, false)) := by
    intro y hy1 hy2
    by_cases c1 : -1000000000 ≤ y
    · by_cases c2 : y ≤ 1000000000
      · refine Ev.step (fun k => ?_) (Ev.bind (f := fun _ t => if t.toList = s.toList then some (y, true) else some (0, false)) (dec_is y (by omega) (by omega)) (ev_all fun k => ?_))
        · rw [spec_l01Value.j2]; unfold spec_l00In.f; rw [if_pos (by omega), Option.bind_some, decide_eq_true c2, if_pos rfl]
        · rw [ByteArray.toList_eq, ByteArray.toList_eq, ba_list]
          by_cases c3 : Go.Lib.itoa y = s.data.toList
          · rw [if_pos c3, if_pos ⟨c1, c2, c3⟩]
          · rw [if_neg c3, if_neg (fun h => c3 h.2.2)]
      · refine ev_ret (fun k => ?_)
        rw [spec_l01Value.j2]; unfold spec_l00In.f; rw [if_pos (by omega), Option.bind_some, decide_eq_false c2, if_neg (by decide), if_neg (fun h => c2 h.2.1)]
    · refine ev_ret (fun k => ?_)
      rw [spec_l01Value.j2]; unfold spec_l00In.f; rw [if_neg (by omega), Option.bind_some, if_neg (by decide), if_neg (fun h => c1 h.1)]
  by_cases c : (s.size : Int) > 0
  · have hl : 0 < s.data.toList.length := by rw [← ba_size]; omega
    have hb := bt_list s 0 hl
    have hh : s.data.toList.head? = some (s.data.toList[0]'hl) := by rw [List.head?_eq_getElem?, List.getElem?_eq_getElem hl]
    have e45 : ∀ q : UInt8, ((q.toNat : Int) == 45) = decide (q = 45) := by
      intro q
      rw [Bool.eq_iff_iff]
      simp only [beq_iff_eq, decide_eq_true_eq]
      constructor
      · intro h
        apply UInt8.toNat_inj.1
        show q.toNat = 45
        omega
      · rintro rfl; rfl
    by_cases g : s.data.toList[0]'hl = 45
    · have es : sgn s.data.toList x = -x := by unfold sgn; rw [hh, g, if_pos rfl]
      rw [es]
      refine Ev.step (fun k => ?_) (Ev.step (f := fun k => spec_l01Value.j2 k s (-x)) (g := fun k => spec_l01Value.j1 k s x true) (fun k => ?_) (key (-x) (by omega) (by omega)))
      · rw [spec_l01Value.l0, if_neg (by omega), if_pos c, if_pos (by omega)]
        rw [show (0 : Int) = ((0 : Nat) : Int) from rfl, hb, e45, decide_eq_true g]
      · rw [spec_l01Value.j1, if_pos rfl, wid (by omega) (by omega)]
    · have es : sgn s.data.toList x = x := by unfold sgn; rw [hh, if_neg (by intro h; injection h with h; exact g h)]
      rw [es]
      refine Ev.step (fun k => ?_) (Ev.step (f := fun k => spec_l01Value.j2 k s x) (g := fun k => spec_l01Value.j1 k s x false) (fun k => ?_) (key x (by omega) (by omega)))
      · rw [spec_l01Value.l0, if_neg (by omega), if_pos c, if_pos (by omega)]
        rw [show (0 : Int) = ((0 : Nat) : Int) from rfl, hb, e45, decide_eq_false g]
      · rw [spec_l01Value.j1, if_neg (by decide)]
  · have hl : s.data.toList = [] := List.eq_nil_of_length_eq_zero (by rw [← ba_size]; omega)
    have es : sgn s.data.toList x = x := by unfold sgn; rw [hl]; rfl
    rw [es]
    refine Ev.step (fun k => ?_) (Ev.step (f := fun k => spec_l01Value.j2 k s x) (g := fun k => spec_l01Value.j1 k s x false) (fun k => ?_) (key x (by omega) (by omega)))
    · rw [spec_l01Value.l0, if_neg (by omega), if_neg c]
    · rw [spec_l01Value.j1, if_neg (by decide)]
theorem rd_loop (s : ByteArray) (hs : s.size ≤ 11) {r : Int × Bool} (fin : Int → Prop) : ∀ (l : List UInt8) (i : Nat) (a : Int), s.data.toList.drop i = l → i + l.length = s.size → 0 ≤ a → a < 10 ^ i → Ev (fun k => spec_l01Value.l0 k s (sv a l) (s.size : Int)) r → Ev (fun k => spec_l01Value.l0 k s a (i : Int)) r
  | [], i, a, hd, hl, h0, h1, h => by
    have : i = s.size := by simpa using hl
    rw [this]; exact h
  | c :: l, i, a, hd, hl, h0, h1, h => by
    obtain ⟨hi, hb, hd2⟩ := bt_cons s i c l hd
    rw [List.length_cons] at hl
    rw [sv] at h
    have hp := p10 i (by omega)
    have e : (10 : Int) ^ (i + 1) = 10 * 10 ^ i := by rw [Int.pow_succ]; omega
    by_cases g : 48 ≤ c.toNat ∧ c.toNat ≤ 57
    · rw [if_pos g] at h
      have hx := rd_loop s hs fin l (i + 1) (10 * a + ((c.toNat : Int) - 48)) hd2 (by omega) (by omega) (by omega) h
      refine Ev.step (fun k => ?_) hx
      rw [spec_l01Value.l0, if_pos (by omega), if_pos (by omega), hb, if_pos (by omega), if_pos (by omega), wid (x := 10 * a) (by omega) (by omega), show ((c.toNat : Int) - 48) % 256 = (c.toNat : Int) - 48 by omega, wid (x := 10 * a + ((c.toNat : Int) - 48)) (by omega) (by omega), wid (x := (i : Int) + 1) (by omega) (by omega), show ((i + 1 : Nat) : Int) = (i : Int) + 1 by omega]
    · rw [if_neg g] at h
      have hx := rd_loop s hs fin l (i + 1) a hd2 (by omega) h0 (by omega) h
      refine Ev.step (fun k => ?_) hx
      rw [spec_l01Value.l0, if_pos (by omega), if_pos (by omega), hb]
      by_cases g1 : (c.toNat : Int) ≥ 48
      · rw [if_pos g1, if_neg (by omega), wid (x := (i : Int) + 1) (by omega) (by omega), show ((i + 1 : Nat) : Int) = (i : Int) + 1 by omega]
      · rw [if_neg g1, wid (x := (i : Int) + 1) (by omega) (by omega), show ((i + 1 : Nat) : Int) = (i : Int) + 1 by omega]
theorem spec_rd (s : ByteArray) (hs : s.size ≤ 11) : Ev (fun k => spec_l01Value.f k s) (if -1000000000 ≤ sgn s.data.toList (sv 0 s.data.toList) ∧ sgn s.data.toList (sv 0 s.data.toList) ≤ 1000000000 ∧ Go.Lib.itoa (sgn s.data.toList (sv 0 s.data.toList)) = s.data.toList then (sgn s.data.toList (sv 0 s.data.toList), true) else (0, false)) := by
  have hb := sv_bd s.data.toList 0 0 (by decide) (by decide)
  have hl : s.data.toList.length ≤ 11 := by rw [← ba_size]; exact hs
  have hp := p10 (0 + s.data.toList.length) (by omega)
  have h1 := rd_num s hs (sv 0 s.data.toList) hb.1 (by rw [show (10 : Int) ^ 11 = 100000000000 by decide]; omega)
  have h2 := rd_loop s hs (fun _ => True) s.data.toList 0 0 rfl (by rw [← ba_size]; omega) (by decide) (by decide) h1
  unfold spec_l01Value.f
  simp only [if_neg (show ¬ (s.size : Int) > 11 by omega)]
  exact h2
theorem sv_itoa {v : Int} (h1 : -1000000000 ≤ v) (h2 : v ≤ 1000000000) : sgn (Go.Lib.itoa v) (sv 0 (Go.Lib.itoa v)) = v := by
  unfold Go.Lib.itoa
  by_cases c : v < 0
  · rw [if_pos c]
    have e := sv_vl (Go.Lib.decDigits v.natAbs) 0 (dd_dig _)
    rw [vl_dd] at e
    unfold sgn
    rw [List.head?_cons, if_pos rfl, sv, if_neg (by decide)]
    show -(sv ((0 : Nat) : Int) _) = v
    rw [e]; omega
  · rw [if_neg c]
    have e := sv_vl (Go.Lib.decDigits v.toNat) 0 (dd_dig _)
    rw [vl_dd] at e
    have hd := dd_dig v.toNat
    unfold sgn
    rw [if_neg]
    · show sv ((0 : Nat) : Int) _ = v
      rw [e]; omega
    · generalize Go.Lib.decDigits v.toNat = l at hd
      cases l with
      | nil => simp
      | cons x l =>
        intro h
        rw [List.head?_cons] at h
        injection h with h
        have := hd x (List.mem_cons_self ..)
        rw [h] at this
        exact absurd this.1 (by decide)
theorem spec_value (s : ByteArray) : Ev (fun k => spec_l01Value.f k s) (impl_ReadDecimal.out s) := by
  by_cases h : ∃ v, isNum s v
  · obtain ⟨v, hv⟩ := h
    rw [impl_rd_yes s v hv]
    have hs : s.size ≤ 11 := by rw [ba_size, ← hv.2.2]; exact itoa_len hv.1 hv.2.1
    have hx := spec_rd s hs
    rw [← hv.2.2, sv_itoa hv.1 hv.2.1, if_pos ⟨hv.1, hv.2.1, rfl⟩] at hx
    exact hx
  · rw [impl_rd_no s (fun v hv => h ⟨v, hv⟩)]
    by_cases hs : s.size ≤ 11
    · have hx := spec_rd s hs
      rw [if_neg (by rintro ⟨a, b, c⟩; exact h ⟨_, a, b, c⟩)] at hx
      exact hx
    · exact ev_all fun k => by unfold spec_l01Value.f; rw [if_pos (by omega)]
theorem impl_rd (s : ByteArray) (hs : s.size ≤ 140737488351232) : impl_ReadDecimal.f s = some (impl_ReadDecimal.out s) := by unfold impl_ReadDecimal.f; rw [if_pos hs]

theorem FnExactReadDecimal : laws_FnExactReadDecimal.Pure := by
  intro s hs
  refine Ev.rounds (r := true) ?_
  unfold laws_FnExactReadDecimal.f
  by_cases hb : (s.size : Int) > 1048576
  · simp only [if_pos hb]; exact Ev.now _
  simp only [if_neg hb]
  unfold spec_ReadDecimal.f
  refine Ev.bind (Ev.bind (spec_value s) (Ev.now _)) (ev_all fun k => ?_)
  unfold impl_ReadDecimal.f
  rw [if_pos hs, Option.bind_some, if_pos rfl, if_neg (by simp)]

end Go.Proofs.YtbfcnacllonnbaaDoor.Pure
