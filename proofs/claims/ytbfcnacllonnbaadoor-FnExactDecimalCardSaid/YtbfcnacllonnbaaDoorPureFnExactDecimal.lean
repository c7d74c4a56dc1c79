/- The program's Decimal returns what the reference's returns, for every number. Conditions: those of the card alone. -/
import Derived.Test.YtbfcnacllonnbaaDoorPFnExactDecimaly
namespace Go.Proofs.YtbfcnacllonnbaaDoor.Pure
open Go.RowKit Go.Proofs.YtbfcnacllonnbaaDoor.PFnExactDecimal Go.Proofs.YtbfcnacllonnbaaDoorW.PrintWords Go.Proofs.YtbfcnacllonnbaaDoorW.PrintLast Go.Proofs.YtbfcnacllonnbaaDoorW.PrintMore
set_option linter.unusedVariables false
set_option linter.unusedSimpArgs false

theorem wid {x : Int} (h1 : -9223372036854775808 ≤ x) (h2 : x < 9223372036854775808) : wrap64 x = x := by unfold wrap64; omega
theorem i64_bd {x : Int} (h : (Lit.int .i64 x).wf = true) : -9223372036854775808 ≤ x ∧ x ≤ 9223372036854775807 := by
  simp only [Lit.wf, IntKind.min, IntKind.max, IntKind.signed, IntKind.bits, Bool.and_eq_true, decide_eq_true_eq, if_true] at h
  omega
/-- A loop's step, its answer known at once. -/
theorem ev_ret {α : Type} {g : Nat → Option α} {r : α} (h : ∀ k, g (k + 1) = some r) : Ev g r := Ev.step (f := fun _ => some r) h (Ev.now r)
theorem ev_all {α : Type} {g : Nat → Option α} {r : α} (h : ∀ k, g k = some r) : Ev g r := ⟨0, fun k _ => h k⟩

/-! the decimal numeral -/
theorem dd_big {u : Nat} (h : ¬ u < 10) : Go.Lib.decDigits u = Go.Lib.decDigits (u / 10) ++ [UInt8.ofNat (48 + u % 10)] := by rw [Go.Lib.decDigits, dif_neg h]
theorem dd_ind {p : Nat → Prop} (h1 : ∀ u, u < 10 → p u) (h2 : ∀ u, ¬ u < 10 → p (u / 10) → p u) (u : Nat) : p u := by
  induction u using Nat.strongRecOn with
  | _ u ih =>
    by_cases h : u < 10
    · exact h1 u h
    · exact h2 u h (ih (u / 10) (by omega))
theorem dg_nat {d : Nat} (h : d < 10) : (UInt8.ofNat (48 + d)).toNat = 48 + d := by
  have e : (UInt8.ofNat (48 + d)).toNat = (48 + d) % 256 := rfl
  rw [e]; omega
theorem dd_ne (u : Nat) : Go.Lib.decDigits u ≠ [] := by
  refine dd_ind (p := fun u => Go.Lib.decDigits u ≠ []) (fun u h => ?_) (fun u h _ => ?_) u
  · rw [Go.Lib.decDigits_one h]; simp
  · rw [dd_big h]; simp
theorem dd_dig (u : Nat) : ∀ c ∈ Go.Lib.decDigits u, 48 ≤ c.toNat ∧ c.toNat ≤ 57 := by
  refine dd_ind (p := fun u => ∀ c ∈ Go.Lib.decDigits u, 48 ≤ c.toNat ∧ c.toNat ≤ 57) (fun u h c hc => ?_) (fun u h ih c hc => ?_) u
  · rw [Go.Lib.decDigits_one h, List.mem_singleton] at hc
    rw [hc, dg_nat h]; omega
  · rw [dd_big h, List.mem_append, List.mem_singleton] at hc
    rcases hc with hc | hc
    · exact ih c hc
    · rw [hc, dg_nat (by omega)]; omega
def vl (a : Nat) (l : List UInt8) : Nat := l.foldl (fun a c => a * 10 + (c.toNat - 48)) a
theorem vl_cons (a : Nat) (c : UInt8) (l : List UInt8) : vl a (c :: l) = vl (a * 10 + (c.toNat - 48)) l := by unfold vl; rw [List.foldl_cons]
theorem vl_app (a : Nat) (l : List UInt8) (c : UInt8) : vl a (l ++ [c]) = vl a l * 10 + (c.toNat - 48) := by unfold vl; rw [List.foldl_append]; rfl
theorem vl_dd (u : Nat) : vl 0 (Go.Lib.decDigits u) = u := by
  refine dd_ind (p := fun u => vl 0 (Go.Lib.decDigits u) = u) (fun u h => ?_) (fun u h ih => ?_) u
  · rw [Go.Lib.decDigits_one h, vl_cons, dg_nat h]
    show 0 * 10 + (48 + u - 48) = u
    omega
  · rw [dd_big h, vl_app, ih, dg_nat (by omega)]; omega
theorem vl_ge : ∀ (l : List UInt8) (a : Nat), a ≤ vl a l
  | [], a => Nat.le_refl _
  | c :: l, a => by have := vl_ge l (a * 10 + (c.toNat - 48)); rw [vl_cons]; omega
theorem pu_ok : ∀ (l : List UInt8) (acc : Nat), (∀ c ∈ l, 48 ≤ c.toNat ∧ c.toNat ≤ 57) → vl acc l ≤ 1000000000000000000 → Go.Lib.parseUintM (2 ^ 64 - 1) acc l = .ok (vl acc l)
  | [], acc, _, _ => rfl
  | c :: l, acc, h, hv => by
    have hc := h c (List.mem_cons_self ..)
    have hg := vl_ge l (acc * 10 + (c.toNat - 48))
    rw [vl_cons] at hv
    rw [Go.Lib.parseUintM, if_pos hc, if_neg (by omega), if_neg (by omega), vl_cons]
    exact pu_ok l _ (fun c hc => h c (List.mem_cons_of_mem _ hc)) hv
theorem dd_len {u k : Nat} (h : u < 10 ^ (k + 1)) : (Go.Lib.decDigits u).length ≤ k + 1 := by
  induction k generalizing u with
  | zero => rw [Go.Lib.decDigits_one (by simpa using h)]; simp
  | succ k ih =>
    by_cases c : u < 10
    · rw [Go.Lib.decDigits_one c]; simp
    · rw [dd_big c, List.length_append, List.length_singleton]
      have := ih (u := u / 10) (by rw [Nat.pow_succ] at h; omega)
      omega
theorem itoa_len {n : Int} (h1 : -1000000000 ≤ n) (h2 : n ≤ 1000000000) : (Go.Lib.itoa n).length ≤ 11 := by
  unfold Go.Lib.itoa
  split
  · rw [List.length_cons]
    have := dd_len (u := n.natAbs) (k := 9) (by omega)
    omega
  · have := dd_len (u := n.toNat) (k := 9) (by omega)
    omega
theorem itoa_ne (n : Int) : Go.Lib.itoa n ≠ [] := by
  unfold Go.Lib.itoa
  split
  · simp
  · exact dd_ne _
/-- The numeral is read back. -/
theorem parse_itoa {n : Int} (h1 : -1000000000 ≤ n) (h2 : n ≤ 1000000000) : Go.Lib.parseIntB 64 (Go.Lib.itoa n) = .ok n := by
  unfold Go.Lib.itoa
  by_cases c : n < 0
  · rw [if_pos c]
    have e := pu_ok (Go.Lib.decDigits n.natAbs) 0 (dd_dig _) (by rw [vl_dd]; omega)
    rw [vl_dd] at e
    have e2 : Go.Lib.parseUintB 64 (Go.Lib.decDigits n.natAbs) = .ok n.natAbs := by unfold Go.Lib.parseUintB; rw [if_neg (dd_ne _)]; exact e
    unfold Go.Lib.parseIntB
    simp only [show ((45 : UInt8).toNat = 43 ∨ (45 : UInt8).toNat = 45) from Or.inr rfl, if_true, e2]
    rw [if_neg (by rintro ⟨h, -⟩; exact h rfl), if_neg (by rintro ⟨-, h⟩; simp at h; omega), if_pos (show (45 : UInt8).toNat = 45 from rfl)]
    congr 1
    omega
  · rw [if_neg c]
    have e := pu_ok (Go.Lib.decDigits n.toNat) 0 (dd_dig _) (by rw [vl_dd]; omega)
    rw [vl_dd] at e
    have e2 : Go.Lib.parseUintB 64 (Go.Lib.decDigits n.toNat) = .ok n.toNat := by unfold Go.Lib.parseUintB; rw [if_neg (dd_ne _)]; exact e
    have hd := dd_dig n.toNat
    generalize Go.Lib.decDigits n.toNat = l at e2 hd
    cases l with
    | nil => exact absurd e2 (by unfold Go.Lib.parseUintB; rw [if_pos rfl]; simp)
    | cons x l =>
      have hx := hd x (List.mem_cons_self ..)
      unfold Go.Lib.parseIntB
      simp only [show ¬ (x.toNat = 43 ∨ x.toNat = 45) by omega, if_false, e2]
      rw [if_neg (by rintro ⟨-, h⟩; simp at h; omega), if_neg (by rintro ⟨h, -⟩; omega), if_neg (by omega)]
      congr 1
      omega
theorem itoa_inj {n m : Int} (h1 : -1000000000 ≤ n) (h2 : n ≤ 1000000000) (h3 : -1000000000 ≤ m) (h4 : m ≤ 1000000000) (h : Go.Lib.itoa n = Go.Lib.itoa m) : n = m := by
  have a := parse_itoa h1 h2
  rw [h, parse_itoa h3 h4] at a
  injection a with a
  exact a.symm
theorem ba_ext {a b : ByteArray} (h : a.data.toList = b.data.toList) : a = b := by
  cases a with | mk x => cases b with | mk y => exact congrArg ByteArray.mk (Array.toList_inj.1 h)
theorem ba_list (l : List UInt8) : (⟨l.toArray⟩ : ByteArray).data.toList = l := rfl
theorem ba_mk (s : ByteArray) : (⟨s.data.toList.toArray⟩ : ByteArray) = s := ba_ext rfl
theorem ba_size (s : ByteArray) : s.size = s.data.toList.length := by rw [Array.length_toList]; rfl
theorem bt_list (s : ByteArray) (i : Nat) (h : i < s.data.toList.length) : bt s (i : Int) = ((s.data.toList[i]'h).toNat : Int) := by
  have h' : i < s.size := by rw [ba_size]; exact h
  unfold bt
  rw [dif_pos (by rw [Int.toNat_natCast]; exact h')]
  simp only [Int.toNat_natCast, Array.getElem_toList]
  rfl
theorem bt_cons (s : ByteArray) (i : Nat) (c : UInt8) (l : List UInt8) (h : s.data.toList.drop i = c :: l) : i < s.size ∧ bt s (i : Int) = (c.toNat : Int) ∧ s.data.toList.drop (i + 1) = l := by
  have hl : i < s.data.toList.length := by
    have := congrArg List.length h
    rw [List.length_drop, List.length_cons] at this
    omega
  rw [List.drop_eq_getElem_cons hl] at h
  injection h with h1 h2
  refine ⟨by rw [ba_size]; exact hl, ?_, h2⟩
  rw [bt_list s i hl, h1]

/-! the reference's numeral -/
theorem str1 (x : Int) : strOfNums [x] = ⟨#[UInt8.ofNat x.toNat]⟩ := rfl
theorem ba_app (a b : ByteArray) : (a ++ b).data.toList = a.data.toList ++ b.data.toList := by
  rw [ByteArray.data_append, Array.toList_append]
theorem ba_len (a : ByteArray) : a.size = a.data.toList.length := ba_size a
theorem dec_l0 (n : Int) (hn : -9223372036854775808 ≤ n ∧ n ≤ 9223372036854775807) (hz : n ≠ 0) (u : Nat) : ∀ (o : ByteArray) (rest : Int), rest.natAbs = u → -9223372036854775808 ≤ rest ∧ rest ≤ 9223372036854775807 → u < 10 ^ (20 - o.size) → o.size ≤ 20 → (rest = 0 ∨ (n < 0 ↔ rest < 0)) →
    Ev (fun k => spec_l01Dec.l0 k n o rest) ⟨((if n < 0 then [45] else []) ++ (if u = 0 then [] else Go.Lib.decDigits u) ++ o.data.toList).toArray⟩ := by
  induction u using Nat.strongRecOn with
  | _ u ih =>
    intro o rest hu hr hpow ho2 hs
    by_cases c : rest = 0
    · subst c
      have hu0 : u = 0 := by simpa using hu.symm
      subst hu0
      refine ev_ret (fun k => ?_)
      rw [spec_l01Dec.l0, if_pos rfl, if_neg hz]
      by_cases g : n < 0
      · rw [if_pos g, if_pos (by omega), if_pos g]
        exact congrArg some (ba_ext (by rw [ba_app]; simp))
      · rw [if_neg g, if_neg g]
        exact congrArg some (ba_ext (by simp))
    · have hs2 : n < 0 ↔ rest < 0 := by rcases hs with h | h; exact absurd h c; exact h
      have hm := Int.mul_tdiv_add_tmod rest 10
      have hd : (Int.tdiv rest 10).natAbs = u / 10 := by rw [Int.natAbs_tdiv, hu]; rfl
      have hdig : (if Int.tmod rest 10 < 0 then -(Int.tmod rest 10) else Int.tmod rest 10) = ((u % 10 : Nat) : Int) := by
        have e : (Int.tmod rest 10).natAbs = u % 10 := by rw [Int.natAbs_tmod, hu]; rfl
        split <;> omega
      have hu1 : u ≠ 0 := by omega
      have hsg : Int.tdiv rest 10 = 0 ∨ (n < 0 ↔ Int.tdiv rest 10 < 0) := by
        by_cases z : Int.tdiv rest 10 = 0
        · exact Or.inl z
        · refine Or.inr ?_
          have := Int.tmod_lt_of_pos rest (show (0 : Int) < 10 by decide)
          have := Int.lt_tmod_of_pos rest (show (0 : Int) < 10 by decide)
          omega
      have hbd : -9223372036854775808 ≤ Int.tdiv rest 10 ∧ Int.tdiv rest 10 ≤ 9223372036854775807 := by omega
      have hsz : ((⟨#[UInt8.ofNat (48 + u % 10)]⟩ : ByteArray) ++ o).size = o.size + 1 := by rw [ByteArray.size_append]; show 1 + o.size = _; omega
      have hp2 : o.size < 20 := by
        by_cases q : o.size < 20
        · exact q
        · have : o.size = 20 := by omega
          rw [this] at hpow
          omega
      have hpow2 : u / 10 < 10 ^ (20 - (o.size + 1)) := by
        have e : 20 - o.size = (20 - (o.size + 1)) + 1 := by omega
        rw [e, Nat.pow_succ] at hpow
        omega
      have hx := ih (u / 10) (by omega) ((⟨#[UInt8.ofNat (48 + u % 10)]⟩ : ByteArray) ++ o) (Int.tdiv rest 10) hd hbd (by rw [hsz]; exact hpow2) (by rw [hsz]; omega) hsg
      have er : (if n < 0 then ([45] : List UInt8) else []) ++ (if u / 10 = 0 then [] else Go.Lib.decDigits (u / 10)) ++ ((⟨#[UInt8.ofNat (48 + u % 10)]⟩ : ByteArray) ++ o).data.toList = (if n < 0 then [45] else []) ++ (if u = 0 then [] else Go.Lib.decDigits u) ++ o.data.toList := by
        rw [ba_app, if_neg hu1]
        by_cases s : u < 10
        · rw [if_pos (show u / 10 = 0 by omega), Go.Lib.decDigits_one s, show u % 10 = u by omega]
          simp
        · rw [if_neg (show ¬ u / 10 = 0 by omega), dd_big s]
          simp
      rw [er] at hx
      refine Ev.step (fun k => ?_) hx
      rw [spec_l01Dec.l0, if_neg c]
      have hw : wrap64 (Int.tdiv rest 10) = Int.tdiv rest 10 := wid hbd.1 (by omega)
      have ht := Int.tmod_lt_of_pos rest (show (0 : Int) < 10 by decide)
      have ht2 := Int.lt_tmod_of_pos rest (show (0 : Int) < 10 by decide)
      have hg : ∀ x : Int, x = ((u % 10 : Nat) : Int) → strOfNums [(wrap64 (48 + x)) % 256] = ⟨#[UInt8.ofNat (48 + u % 10)]⟩ := by
        intro x hx
        have e : ((wrap64 (48 + x)) % 256).toNat = 48 + u % 10 := by rw [wid (by omega) (by omega)]; omega
        rw [str1, e]
      by_cases g : Int.tmod rest 10 < 0
      · rw [if_pos g] at hdig
        rw [if_pos g, Option.bind_some, wid (x := -(Int.tmod rest 10)) (by omega) (by omega), hg _ hdig, if_pos (by show 1 + o.size ≤ _; omega), hw]
      · rw [if_neg g] at hdig
        rw [if_neg g, Option.bind_some, hg _ hdig, if_pos (by show 1 + o.size ≤ _; omega), hw]
theorem dec_is (n : Int) (h0 : -9223372036854775808 ≤ n) (h1 : n ≤ 9223372036854775807) : Ev (fun k => spec_l01Dec.f k n) ⟨(Go.Lib.itoa n).toArray⟩ := by
  by_cases hz : n = 0
  · subst hz
    refine ev_ret (fun k => ?_)
    unfold spec_l01Dec.f
    rw [spec_l01Dec.l0, if_pos rfl, if_pos rfl]
    have : Go.Lib.itoa 0 = [48] := by unfold Go.Lib.itoa; rw [if_neg (by decide)]; exact Go.Lib.decDigits_one (by decide)
    rw [this]
  · have hx := dec_l0 n ⟨h0, h1⟩ hz n.natAbs ⟨#[]⟩ n rfl ⟨h0, h1⟩ (by show n.natAbs < 10 ^ 20; omega) (by show 0 ≤ 20; omega) (Or.inr Iff.rfl)
    have e : ((if n < 0 then ([45] : List UInt8) else []) ++ (if n.natAbs = 0 then [] else Go.Lib.decDigits n.natAbs) ++ (⟨#[]⟩ : ByteArray).data.toList) = Go.Lib.itoa n := by
      unfold Go.Lib.itoa
      rw [if_neg (show ¬ n.natAbs = 0 by omega)]
      by_cases g : n < 0
      · rw [if_pos g, if_pos g]; simp
      · rw [if_neg g, if_neg g, show n.natAbs = n.toNat by omega]; simp
    rw [e] at hx
    exact hx
/-- The numeral's text. -/
def decT (n : Int) : ByteArray := ⟨(Go.Lib.itoa n).toArray⟩

theorem impl_dec (n : Int) (h0 : -9223372036854775808 ≤ n) (h1 : n ≤ 9223372036854775807) : impl_Decimal.f n = some (decT n) := by unfold impl_Decimal.f; rw [if_pos ⟨h0, h1⟩]; rfl

theorem FnExactDecimal : laws_FnExactDecimal.Pure := by
  intro n hn
  have hb := i64_bd hn
  refine Ev.rounds (r := true) ?_
  unfold laws_FnExactDecimal.f spec_Decimal.f
  refine Ev.bind (Ev.bind (dec_is n hb.1 hb.2) (Ev.now _)) (ev_all fun k => ?_)
  rw [impl_dec n hb.1 hb.2, Option.bind_some, decT, if_pos rfl]

end Go.Proofs.YtbfcnacllonnbaaDoor.Pure
