/- The program's ReadList returns what the reference's returns, for every text. Conditions: those of the card alone. -/
import Derived.Test.YtbfcnacllonnbaaDoorPFnExactReadListy
namespace Go.Proofs.YtbfcnacllonnbaaDoor.Pure
open Go.RowKit Go.Proofs.YtbfcnacllonnbaaDoor.PFnExactReadList Go.Proofs.YtbfcnacllonnbaaDoorW.PrintWords Go.Proofs.YtbfcnacllonnbaaDoorW.PrintLast Go.Proofs.YtbfcnacllonnbaaDoorW.PrintMore
set_option linter.unusedVariables false
set_option linter.unusedSimpArgs false

theorem wid {x : Int} (h1 : -9223372036854775808 ≤ x) (h2 : x < 9223372036854775808) : wrap64 x = x := by unfold wrap64; omega
theorem i64_bd {x : Int} (h : (Lit.int .i64 x).wf = true) : -9223372036854775808 ≤ x ∧ x ≤ 9223372036854775807 := by
  simp only [Lit.wf, IntKind.min, IntKind.max, IntKind.signed, IntKind.bits, Bool.and_eq_true, decide_eq_true_eq, if_true] at h
  omega
/-- A loop's step, its answer known at once. -/
theorem ev_ret {α : Type} {g : Nat → Option α} {r : α} (h : ∀ k, g (k + 1) = some r) : Ev g r := Ev.step (f := fun _ => some r) h (Ev.now r)
theorem ev_all {α : Type} {g : Nat → Option α} {r : α} (h : ∀ k, g k = some r) : Ev g r := ⟨0, fun k _ => h k⟩

/-! the decimal numeral -/
theorem dd_big {u : Nat} (h : ¬ u < 10) : Go.Lib.decDigits u = Go.Lib.decDigits (u / 10) ++ [UInt8.ofNat (48 + u % 10)] := by rw [Go.Lib.decDigits, dif_neg h]
theorem dd_ind {p : Nat → Prop} (h1 : ∀ u, u < 10 → p u) (h2 : ∀ u, ¬ u < 10 → p (u / 10) → p u) (u : Nat) : p u := by
  induction u using Nat.strongRecOn with
  | _ u ih =>
    by_cases h : u < 10
    · exact h1 u h
    · exact h2 u h (ih (u / 10) (by omega))
theorem dg_nat {d : Nat} (h : d < 10) : (UInt8.ofNat (48 + d)).toNat = 48 + d := by
  have e : (UInt8.ofNat (48 + d)).toNat = (48 + d) % 256 := rfl
  rw [e]; omega
theorem dd_ne (u : Nat) : Go.Lib.decDigits u ≠ [] := by
  refine dd_ind (p := fun u => Go.Lib.decDigits u ≠ []) (fun u h => ?_) (fun u h _ => ?_) u
  · rw [Go.Lib.decDigits_one h]; simp
  · rw [dd_big h]; simp
theorem dd_dig (u : Nat) : ∀ c ∈ Go.Lib.decDigits u, 48 ≤ c.toNat ∧ c.toNat ≤ 57 := by
  refine dd_ind (p := fun u => ∀ c ∈ Go.Lib.decDigits u, 48 ≤ c.toNat ∧ c.toNat ≤ 57) (fun u h c hc => ?_) (fun u h ih c hc => ?_) u
  · rw [Go.Lib.decDigits_one h, List.mem_singleton] at hc
    rw [hc, dg_nat h]; omega
  · rw [dd_big h, List.mem_append, List.mem_singleton] at hc
    rcases hc with hc | hc
    · exact ih c hc
    · rw [hc, dg_nat (by omega)]; omega
def vl (a : Nat) (l : List UInt8) : Nat := l.foldl (fun a c => a * 10 + (c.toNat - 48)) a
theorem vl_cons (a : Nat) (c : UInt8) (l : List UInt8) : vl a (c :: l) = vl (a * 10 + (c.toNat - 48)) l := by unfold vl; rw [List.foldl_cons]
theorem vl_app (a : Nat) (l : List UInt8) (c : UInt8) : vl a (l ++ [c]) = vl a l * 10 + (c.toNat - 48) := by unfold vl; rw [List.foldl_append]; rfl
theorem vl_dd (u : Nat) : vl 0 (Go.Lib.decDigits u) = u := by
  refine dd_ind (p := fun u => vl 0 (Go.Lib.decDigits u) = u) (fun u h => ?_) (fun u h ih => ?_) u
  · rw [Go.Lib.decDigits_one h, vl_cons, dg_nat h]
    show 0 * 10 + (48 + u - 48) = u
    omega
  · rw [dd_big h, vl_app, ih, dg_nat (by omega)]; omega
theorem vl_ge : ∀ (l : List UInt8) (a : Nat), a ≤ vl a l
  | [], a => Nat.le_refl _
  | c :: l, a => by have := vl_ge l (a * 10 + (c.toNat - 48)); rw [vl_cons]; omega
theorem pu_ok : ∀ (l : List UInt8) (acc : Nat), (∀ c ∈ l, 48 ≤ c.toNat ∧ c.toNat ≤ 57) → vl acc l ≤ 1000000000000000000 → Go.Lib.parseUintM (2 ^ 64 - 1) acc l = .ok (vl acc l)
  | [], acc, _, _ => rfl
  | c :: l, acc, h, hv => by
    have hc := h c (List.mem_cons_self ..)
    have hg := vl_ge l (acc * 10 + (c.toNat - 48))
    rw [vl_cons] at hv
    rw [Go.Lib.parseUintM, if_pos hc, if_neg (by omega), if_neg (by omega), vl_cons]
    exact pu_ok l _ (fun c hc => h c (List.mem_cons_of_mem _ hc)) hv
theorem dd_len {u k : Nat} (h : u < 10 ^ (k + 1)) : (Go.Lib.decDigits u).length ≤ k + 1 := by
  induction k generalizing u with
  | zero => rw [Go.Lib.decDigits_one (by simpa using h)]; simp
  | succ k ih =>
    by_cases c : u < 10
    · rw [Go.Lib.decDigits_one c]; simp
    · rw [dd_big c, List.length_append, List.length_singleton]
      have := ih (u := u / 10) (by rw [Nat.pow_succ] at h; omega)
      omega
theorem itoa_len {n : Int} (h1 : -1000000000 ≤ n) (h2 : n ≤ 1000000000) : (Go.Lib.itoa n).length ≤ 11 := by
  unfold Go.Lib.itoa
  split
  · rw [List.length_cons]
    have := dd_len (u := n.natAbs) (k := 9) (by omega)
    omega
  · have := dd_len (u := n.toNat) (k := 9) (by omega)
    omega
theorem itoa_ne (n : Int) : Go.Lib.itoa n ≠ [] := by
  unfold Go.Lib.itoa
  split
  · simp
  · exact dd_ne _
/-- The numeral is read back. -/
theorem parse_itoa {n : Int} (h1 : -1000000000 ≤ n) (h2 : n ≤ 1000000000) : Go.Lib.parseIntB 64 (Go.Lib.itoa n) = .ok n := by
  unfold Go.Lib.itoa
  by_cases c : n < 0
  · rw [if_pos c]
    have e := pu_ok (Go.Lib.decDigits n.natAbs) 0 (dd_dig _) (by rw [vl_dd]; omega)
    rw [vl_dd] at e
    have e2 : Go.Lib.parseUintB 64 (Go.Lib.decDigits n.natAbs) = .ok n.natAbs := by unfold Go.Lib.parseUintB; rw [if_neg (dd_ne _)]; exact e
    unfold Go.Lib.parseIntB
    simp only [show ((45 : UInt8).toNat = 43 ∨ (45 : UInt8).toNat = 45) from Or.inr rfl, if_true, e2]
    rw [if_neg (by rintro ⟨h, -⟩; exact h rfl), if_neg (by rintro ⟨-, h⟩; simp at h; omega), if_pos (show (45 : UInt8).toNat = 45 from rfl)]
    congr 1
    omega
  · rw [if_neg c]
    have e := pu_ok (Go.Lib.decDigits n.toNat) 0 (dd_dig _) (by rw [vl_dd]; omega)
    rw [vl_dd] at e
    have e2 : Go.Lib.parseUintB 64 (Go.Lib.decDigits n.toNat) = .ok n.toNat := by unfold Go.Lib.parseUintB; rw [if_neg (dd_ne _)]; exact e
    have hd := dd_dig n.toNat
    generalize Go.Lib.decDigits n.toNat = l at e2 hd
    cases l with
    | nil => exact absurd e2 (by unfold Go.Lib.parseUintB; rw [if_pos rfl]; simp)
    | cons x l =>
      have hx := hd x (List.mem_cons_self ..)
      unfold Go.Lib.parseIntB
      simp only [show ¬ (x.toNat = 43 ∨ x.toNat = 45) by omega, if_false, e2]
      rw [if_neg (by rintro ⟨-, h⟩; simp at h; omega), if_neg (by rintro ⟨h, -⟩; omega), if_neg (by omega)]
      congr 1
      omega
theorem itoa_inj {n m : Int} (h1 : -1000000000 ≤ n) (h2 : n ≤ 1000000000) (h3 : -1000000000 ≤ m) (h4 : m ≤ 1000000000) (h : Go.Lib.itoa n = Go.Lib.itoa m) : n = m := by
  have a := parse_itoa h1 h2
  rw [h, parse_itoa h3 h4] at a
  injection a with a
  exact a.symm
theorem ba_ext {a b : ByteArray} (h : a.data.toList = b.data.toList) : a = b := by
  cases a with | mk x => cases b with | mk y => exact congrArg ByteArray.mk (Array.toList_inj.1 h)
theorem ba_list (l : List UInt8) : (⟨l.toArray⟩ : ByteArray).data.toList = l := rfl
theorem ba_mk (s : ByteArray) : (⟨s.data.toList.toArray⟩ : ByteArray) = s := ba_ext rfl
theorem ba_size (s : ByteArray) : s.size = s.data.toList.length := by rw [Array.length_toList]; rfl
theorem bt_list (s : ByteArray) (i : Nat) (h : i < s.data.toList.length) : bt s (i : Int) = ((s.data.toList[i]'h).toNat : Int) := by
  have h' : i < s.size := by rw [ba_size]; exact h
  unfold bt
  rw [dif_pos (by rw [Int.toNat_natCast]; exact h')]
  simp only [Int.toNat_natCast, Array.getElem_toList]
  rfl
theorem bt_cons (s : ByteArray) (i : Nat) (c : UInt8) (l : List UInt8) (h : s.data.toList.drop i = c :: l) : i < s.size ∧ bt s (i : Int) = (c.toNat : Int) ∧ s.data.toList.drop (i + 1) = l := by
  have hl : i < s.data.toList.length := by
    have := congrArg List.length h
    rw [List.length_drop, List.length_cons] at this
    omega
  rw [List.drop_eq_getElem_cons hl] at h
  injection h with h1 h2
  refine ⟨by rw [ba_size]; exact hl, ?_, h2⟩
  rw [bt_list s i hl, h1]

/-! a text cut at a byte -/
def pcs (b : UInt8) : List UInt8 → List UInt8 → List (List UInt8)
  | cur, [] => [cur]
  | cur, c :: l => if c = b then cur :: pcs b [] l else pcs b (cur ++ [c]) l
theorem pcs_app (b : UInt8) : ∀ (a cur l : List UInt8), b ∉ a → pcs b cur (a ++ l) = pcs b (cur ++ a) l
  | [], cur, l, _ => by simp
  | c :: a, cur, l, h => by
    rw [List.cons_append, pcs, if_neg (fun e => h (by rw [e]; exact List.mem_cons_self ..)), pcs_app b a (cur ++ [c]) l (fun q => h (List.mem_cons_of_mem _ q))]
    simp
theorem pcs_len (b : UInt8) : ∀ (l cur w : List UInt8), w ∈ pcs b cur l → w.length ≤ cur.length + l.length
  | [], cur, w, h => by
    rw [pcs, List.mem_singleton] at h
    rw [h]; simp
  | c :: l, cur, w, h => by
    rw [pcs] at h
    split at h
    · rcases List.mem_cons.1 h with rfl | h
      · omega
      · have := pcs_len b l [] w h
        rw [List.length_nil] at this
        rw [List.length_cons]; omega
    · have := pcs_len b l (cur ++ [c]) w h
      rw [List.length_append, List.length_singleton] at this
      rw [List.length_cons]; omega
theorem occ1 (b : UInt8) (l : List UInt8) (i : Nat) : Go.Lib.occAt l [b] i = (l[i]? == some b) := by
  unfold Go.Lib.occAt
  by_cases h : i < l.length
  · rw [List.drop_eq_getElem_cons h, List.getElem?_eq_getElem h]
    simp only [List.isPrefixOf, Bool.and_true]
    rw [Bool.eq_iff_iff]
    simp only [beq_iff_eq, Option.some.injEq]
    exact eq_comm
  · rw [List.drop_eq_nil_of_le (by omega), List.getElem?_eq_none (by omega)]
    rfl
theorem idx_no (b : UInt8) (l : List UInt8) (h : b ∉ l) : Go.Lib.index l [b] = -1 := by
  refine Go.Lib.index_none (fun j _ => ?_)
  rw [occ1]
  by_cases hj : j < l.length
  · rw [List.getElem?_eq_getElem hj]
    have : l[j] ≠ b := fun e => h (by rw [← e]; exact List.getElem_mem _)
    simpa using this
  · rw [List.getElem?_eq_none (by omega)]; rfl
theorem idx_yes (b : UInt8) (a r : List UInt8) (h : b ∉ a) : Go.Lib.index (a ++ b :: r) [b] = (a.length : Int) := by
  refine Go.Lib.index_first (by simp) ?_ (fun j hj => ?_)
  · rw [occ1, List.getElem?_append_right (Nat.le_refl _), Nat.sub_self]
    simp
  · rw [occ1, List.getElem?_append_left hj, List.getElem?_eq_getElem hj]
    have : a[j] ≠ b := fun e => h (by rw [← e]; exact List.getElem_mem _)
    simpa using this
theorem split_pcs (b : UInt8) (n : Nat) : ∀ (l : List UInt8), l.length ≤ n → Go.Lib.split l [b] = pcs b [] l := by
  induction n with
  | zero =>
    intro l hl
    have : l = [] := List.eq_nil_of_length_eq_zero (by omega)
    subst this
    unfold Go.Lib.split
    rw [Go.Lib.count_miss (idx_no b [] (by simp))]
    rfl
  | succ n ih =>
    intro l hl
    by_cases h : b ∈ l
    · obtain ⟨a, r, rfl, ha⟩ := List.eq_append_cons_of_mem h
      have hi := idx_yes b a r ha
      have hd : (a ++ b :: r).drop (a.length + 1) = r := by rw [← List.drop_drop, List.drop_left]; rfl
      unfold Go.Lib.split
      rw [Go.Lib.count_hit (by simp) hi, List.length_singleton, hd, Nat.add_comm 1, Go.Lib.splitK, if_neg (by rw [hi]; simp), hi, Int.toNat_natCast, Nat.add_zero, List.take_left, List.length_singleton, hd]
      rw [pcs_app b a [] _ ha, List.nil_append, pcs, if_pos rfl]
      congr 1
      rw [List.length_append, List.length_cons] at hl
      exact ih r (by omega)
    · unfold Go.Lib.split
      rw [Go.Lib.count_miss (idx_no b l h)]
      have := pcs_app b l [] [] h
      rw [List.append_nil, List.nil_append] at this
      rw [this]
      rfl

/-! texts and their bytes; the numeral's text -/
theorem str1 (x : Int) : strOfNums [x] = ⟨#[UInt8.ofNat x.toNat]⟩ := rfl
theorem ba_app (a b : ByteArray) : (a ++ b).data.toList = a.data.toList ++ b.data.toList := by
  rw [ByteArray.data_append, Array.toList_append]
theorem ba_len (a : ByteArray) : a.size = a.data.toList.length := ba_size a
/-- The numeral's text. -/
def decT (n : Int) : ByteArray := ⟨(Go.Lib.itoa n).toArray⟩

theorem impl_dec (n : Int) (h0 : -9223372036854775808 ≤ n) (h1 : n ≤ 9223372036854775807) : impl_Decimal.f n = some (decT n) := by unfold impl_Decimal.f; rw [if_pos ⟨h0, h1⟩]; rfl

/-! the reference's numeral -/
theorem dec_l0 (n : Int) (hn : -9223372036854775808 ≤ n ∧ n ≤ 9223372036854775807) (hz : n ≠ 0) (u : Nat) : ∀ (o : ByteArray) (rest : Int), rest.natAbs = u → -9223372036854775808 ≤ rest ∧ rest ≤ 9223372036854775807 → u < 10 ^ (20 - o.size) → o.size ≤ 20 → (rest = 0 ∨ (n < 0 ↔ rest < 0)) →
    Ev (fun k => spec_l01Dec.l0 k n o rest) ⟨((if n < 0 then [45] else []) ++ (if u = 0 then [] else Go.Lib.decDigits u) ++ o.data.toList).toArray⟩ := by
  induction u using Nat.strongRecOn with
  | _ u ih =>
    intro o rest hu hr hpow ho2 hs
    by_cases c : rest = 0
    · subst c
      have hu0 : u = 0 := by simpa using hu.symm
      subst hu0
      refine ev_ret (fun k => ?_)
      rw [spec_l01Dec.l0, if_pos rfl, if_neg hz]
      by_cases g : n < 0
      · rw [if_pos g, if_pos (by omega), if_pos g]
        exact congrArg some (ba_ext (by rw [ba_app]; simp))
      · rw [if_neg g, if_neg g]
        exact congrArg some (ba_ext (by simp))
    · have hs2 : n < 0 ↔ rest < 0 := by rcases hs with h | h; exact absurd h c; exact h
      have hm := Int.mul_tdiv_add_tmod rest 10
      have hd : (Int.tdiv rest 10).natAbs = u / 10 := by rw [Int.natAbs_tdiv, hu]; rfl
      have hdig : (if Int.tmod rest 10 < 0 then -(Int.tmod rest 10) else Int.tmod rest 10) = ((u % 10 : Nat) : Int) := by
        have e : (Int.tmod rest 10).natAbs = u % 10 := by rw [Int.natAbs_tmod, hu]; rfl
        split <;> omega
      have hu1 : u ≠ 0 := by omega
      have hsg : Int.tdiv rest 10 = 0 ∨ (n < 0 ↔ Int.tdiv rest 10 < 0) := by
        by_cases z : Int.tdiv rest 10 = 0
        · exact Or.inl z
        · refine Or.inr ?_
          have := Int.tmod_lt_of_pos rest (show (0 : Int) < 10 by decide)
          have := Int.lt_tmod_of_pos rest (show (0 : Int) < 10 by decide)
          omega
      have hbd : -9223372036854775808 ≤ Int.tdiv rest 10 ∧ Int.tdiv rest 10 ≤ 9223372036854775807 := by omega
      have hsz : ((⟨#[UInt8.ofNat (48 + u % 10)]⟩ : ByteArray) ++ o).size = o.size + 1 := by rw [ByteArray.size_append]; show 1 + o.size = _; omega
      have hp2 : o.size < 20 := by
        by_cases q : o.size < 20
        · exact q
        · have : o.size = 20 := by omega
          rw [this] at hpow
          omega
      have hpow2 : u / 10 < 10 ^ (20 - (o.size + 1)) := by
        have e : 20 - o.size = (20 - (o.size + 1)) + 1 := by omega
        rw [e, Nat.pow_succ] at hpow
        omega
      have hx := ih (u / 10) (by omega) ((⟨#[UInt8.ofNat (48 + u % 10)]⟩ : ByteArray) ++ o) (Int.tdiv rest 10) hd hbd (by rw [hsz]; exact hpow2) (by rw [hsz]; omega) hsg
      have er : (if n < 0 then ([45] : List UInt8) else []) ++ (if u / 10 = 0 then [] else Go.Lib.decDigits (u / 10)) ++ ((⟨#[UInt8.ofNat (48 + u % 10)]⟩ : ByteArray) ++ o).data.toList = (if n < 0 then [45] else []) ++ (if u = 0 then [] else Go.Lib.decDigits u) ++ o.data.toList := by
        rw [ba_app, if_neg hu1]
        by_cases s : u < 10
        · rw [if_pos (show u / 10 = 0 by omega), Go.Lib.decDigits_one s, show u % 10 = u by omega]
          simp
        · rw [if_neg (show ¬ u / 10 = 0 by omega), dd_big s]
          simp
      rw [er] at hx
      refine Ev.step (fun k => ?_) hx
      rw [spec_l01Dec.l0, if_neg c]
      have hw : wrap64 (Int.tdiv rest 10) = Int.tdiv rest 10 := wid hbd.1 (by omega)
      have ht := Int.tmod_lt_of_pos rest (show (0 : Int) < 10 by decide)
      have ht2 := Int.lt_tmod_of_pos rest (show (0 : Int) < 10 by decide)
      have hg : ∀ x : Int, x = ((u % 10 : Nat) : Int) → strOfNums [(wrap64 (48 + x)) % 256] = ⟨#[UInt8.ofNat (48 + u % 10)]⟩ := by
        intro x hx
        have e : ((wrap64 (48 + x)) % 256).toNat = 48 + u % 10 := by rw [wid (by omega) (by omega)]; omega
        rw [str1, e]
      by_cases g : Int.tmod rest 10 < 0
      · rw [if_pos g] at hdig
        rw [if_pos g, Option.bind_some, wid (x := -(Int.tmod rest 10)) (by omega) (by omega), hg _ hdig, if_pos (by show 1 + o.size ≤ _; omega), hw]
      · rw [if_neg g] at hdig
        rw [if_neg g, Option.bind_some, hg _ hdig, if_pos (by show 1 + o.size ≤ _; omega), hw]
theorem dec_is (n : Int) (h0 : -9223372036854775808 ≤ n) (h1 : n ≤ 9223372036854775807) : Ev (fun k => spec_l01Dec.f k n) ⟨(Go.Lib.itoa n).toArray⟩ := by
  by_cases hz : n = 0
  · subst hz
    refine ev_ret (fun k => ?_)
    unfold spec_l01Dec.f
    rw [spec_l01Dec.l0, if_pos rfl, if_pos rfl]
    have : Go.Lib.itoa 0 = [48] := by unfold Go.Lib.itoa; rw [if_neg (by decide)]; exact Go.Lib.decDigits_one (by decide)
    rw [this]
  · have hx := dec_l0 n ⟨h0, h1⟩ hz n.natAbs ⟨#[]⟩ n rfl ⟨h0, h1⟩ (by show n.natAbs < 10 ^ 20; omega) (by show 0 ≤ 20; omega) (Or.inr Iff.rfl)
    have e : ((if n < 0 then ([45] : List UInt8) else []) ++ (if n.natAbs = 0 then [] else Go.Lib.decDigits n.natAbs) ++ (⟨#[]⟩ : ByteArray).data.toList) = Go.Lib.itoa n := by
      unfold Go.Lib.itoa
      rw [if_neg (show ¬ n.natAbs = 0 by omega)]
      by_cases g : n < 0
      · rw [if_pos g, if_pos g]; simp
      · rw [if_neg g, if_neg g, show n.natAbs = n.toNat by omega]; simp
    rw [e] at hx
    exact hx

/-! ReadDecimal, the program's and the reference's -/
def isNum (s : ByteArray) (v : Int) : Prop := -1000000000 ≤ v ∧ v ≤ 1000000000 ∧ Go.Lib.itoa v = s.data.toList
theorem impl_rd_yes (s : ByteArray) (v : Int) (h : isNum s v) : impl_ReadDecimal.out s = (v, true) := by
  unfold impl_ReadDecimal.out
  rw [← h.2.2, parse_itoa h.1 h.2.1]
  show (if (-1000000000 ≤ v ∧ v ≤ 1000000000) ∧ (⟨(Go.Lib.itoa v).toArray⟩ : ByteArray).toList = s.toList then (v, true) else (0, false)) = (v, true)
  rw [if_pos ⟨⟨h.1, h.2.1⟩, by rw [ByteArray.toList_eq, ByteArray.toList_eq, h.2.2]⟩]
theorem impl_rd_no (s : ByteArray) (h : ∀ v, ¬ isNum s v) : impl_ReadDecimal.out s = (0, false) := by
  unfold impl_ReadDecimal.out
  split
  · rename_i v e
    rw [if_neg]
    rintro ⟨⟨a, b⟩, c⟩
    rw [ByteArray.toList_eq, ByteArray.toList_eq] at c
    exact h v ⟨a, b, c⟩
  · rfl
/-- What the reference reads, digit by digit. -/
def sv : Int → List UInt8 → Int
  | a, [] => a
  | a, c :: l => sv (if 48 ≤ c.toNat ∧ c.toNat ≤ 57 then 10 * a + ((c.toNat : Int) - 48) else a) l
theorem sv_vl : ∀ (l : List UInt8) (a : Nat), (∀ c ∈ l, 48 ≤ c.toNat ∧ c.toNat ≤ 57) → sv (a : Int) l = (vl a l : Int)
  | [], a, _ => rfl
  | c :: l, a, h => by
    have hc := h c (List.mem_cons_self ..)
    rw [sv, if_pos hc, vl_cons, show 10 * (a : Int) + ((c.toNat : Int) - 48) = ((a * 10 + (c.toNat - 48) : Nat) : Int) by omega]
    exact sv_vl l _ (fun c hc => h c (List.mem_cons_of_mem _ hc))
theorem sv_bd : ∀ (l : List UInt8) (a : Int) (n : Nat), 0 ≤ a → a < 10 ^ n → 0 ≤ sv a l ∧ sv a l < 10 ^ (n + l.length)
  | [], a, n, h0, h1 => ⟨h0, h1⟩
  | c :: l, a, n, h0, h1 => by
    rw [sv]
    have : n + (c :: l).length = (n + 1) + l.length := by rw [List.length_cons]; omega
    rw [this]
    have e : (10 : Int) ^ (n + 1) = 10 * 10 ^ n := by rw [Int.pow_succ]; omega
    split
    · exact sv_bd l _ (n + 1) (by omega) (by omega)
    · exact sv_bd l _ (n + 1) h0 (by omega)
theorem p10 (i : Nat) (h : i ≤ 11) : (10 : Int) ^ i ≤ 100000000000 := by
  have h1 := Nat.pow_le_pow_right (show 0 < 10 by decide) h
  have h2 : ((10 ^ i : Nat) : Int) = (10 : Int) ^ i := by rw [Int.natCast_pow]; rfl
  have h3 : 10 ^ 11 = 100000000000 := by decide
  rw [← h2]
  omega
def sgn (l : List UInt8) (x : Int) : Int := if l.head? = some 45 then -x else x
theorem rd_num (s : ByteArray) (hs : s.size ≤ 11) (x : Int) (h0 : 0 ≤ x) (h1 : x < 10 ^ 11) : Ev (fun k => spec_l01Value.l0 k s x (s.size : Int)) (if -1000000000 ≤ sgn s.data.toList x ∧ sgn s.data.toList x ≤ 1000000000 ∧ Go.Lib.itoa (sgn s.data.toList x) = s.data.toList then (sgn s.data.toList x, true) else (0, false)) := by
  have hx : x < 100000000000 := by have : (10 : Int) ^ 11 = 100000000000 := by decide
                                   omega
  have key : ∀ y : Int, -100000000000 < y → y < 100000000000 → Ev (fun k => spec_l01Value.j2 k s y) (if -1000000000 ≤ y ∧ y ≤ 1000000000 ∧ Go.Lib.itoa y = s.data.toList then (y, true) else (0, false)) := by
    intro y hy1 hy2
    by_cases c1 : -1000000000 ≤ y
    · by_cases c2 : y ≤ 1000000000
      · refine Ev.step (fun k => ?_) (Ev.bind (f := fun _ t => if t.toList = s.toList then some (y, true) else some (0, false)) (dec_is y (by omega) (by omega)) (ev_all fun k => ?_))
        · rw [spec_l01Value.j2]; unfold spec_l00In.f; rw [if_pos (by omega), Option.bind_some, decide_eq_true c2, if_pos rfl]
        · rw [ByteArray.toList_eq, ByteArray.toList_eq, ba_list]
          by_cases c3 : Go.Lib.itoa y = s.data.toList
          · rw [if_pos c3, if_pos ⟨c1, c2, c3⟩]
          · rw [if_neg c3, if_neg (fun h => c3 h.2.2)]
      · refine ev_ret (fun k => ?_)
        rw [spec_l01Value.j2]; unfold spec_l00In.f; rw [if_pos (by omega), Option.bind_some, decide_eq_false c2, if_neg (by decide), if_neg (fun h => c2 h.2.1)]
    · refine ev_ret (fun k => ?_)
      rw [spec_l01Value.j2]; unfold spec_l00In.f; rw [if_neg (by omega), Option.bind_some, if_neg (by decide), if_neg (fun h => c1 h.1)]
  by_cases c : (s.size : Int) > 0
  · have hl : 0 < s.data.toList.length := by rw [← ba_size]; omega
    have hb := bt_list s 0 hl
    have hh : s.data.toList.head? = some (s.data.toList[0]'hl) := by rw [List.head?_eq_getElem?, List.getElem?_eq_getElem hl]
    have e45 : ∀ q : UInt8, ((q.toNat : Int) == 45) = decide (q = 45) := by
      intro q
      rw [Bool.eq_iff_iff]
      simp only [beq_iff_eq, decide_eq_true_eq]
      constructor
      · intro h
        apply UInt8.toNat_inj.1
        show q.toNat = 45
        omega
      · rintro rfl; rfl
    by_cases g : s.data.toList[0]'hl = 45
    · have es : sgn s.data.toList x = -x := by unfold sgn; rw [hh, g, if_pos rfl]
      rw [es]
      refine Ev.step (fun k => ?_) (Ev.step (f := fun k => spec_l01Value.j2 k s (-x)) (g := fun k => spec_l01Value.j1 k s x true) (fun k => ?_) (key (-x) (by omega) (by omega)))
      · rw [spec_l01Value.l0, if_neg (by omega), if_pos c, if_pos (by omega)]
        rw [show (0 : Int) = ((0 : Nat) : Int) from rfl, hb, e45, decide_eq_true g]
      · rw [spec_l01Value.j1, if_pos rfl, wid (by omega) (by omega)]
    · have es : sgn s.data.toList x = x := by unfold sgn; rw [hh, if_neg (by intro h; injection h with h; exact g h)]
      rw [es]
      refine Ev.step (fun k => ?_) (Ev.step (f := fun k => spec_l01Value.j2 k s x) (g := fun k => spec_l01Value.j1 k s x false) (fun k => ?_) (key x (by omega) (by omega)))
      · rw [spec_l01Value.l0, if_neg (by omega), if_pos c, if_pos (by omega)]
        rw [show (0 : Int) = ((0 : Nat) : Int) from rfl, hb, e45, decide_eq_false g]
      · rw [spec_l01Value.j1, if_neg (by decide)]
  · have hl : s.data.toList = [] := List.eq_nil_of_length_eq_zero (by rw [← ba_size]; omega)
    have es : sgn s.data.toList x = x := by unfold sgn; rw [hl]; rfl
    rw [es]
    refine Ev.step (fun k => ?_) (Ev.step (f := fun k => spec_l01Value.j2 k s x) (g := fun k => spec_l01Value.j1 k s x false) (fun k => ?_) (key x (by omega) (by omega)))
    · rw [spec_l01Value.l0, if_neg (by omega), if_neg c]
    · rw [spec_l01Value.j1, if_neg (by decide)]
theorem rd_loop (s : ByteArray) (hs : s.size ≤ 11) {r : Int × Bool} (fin : Int → Prop) : ∀ (l : List UInt8) (i : Nat) (a : Int), s.data.toList.drop i = l → i + l.length = s.size → 0 ≤ a → a < 10 ^ i → Ev (fun k => spec_l01Value.l0 k s (sv a l) (s.size : Int)) r → Ev (fun k => spec_l01Value.l0 k s a (i : Int)) r
  | [], i, a, hd, hl, h0, h1, h => by
    have : i = s.size := by simpa using hl
    rw [this]; exact h
  | c :: l, i, a, hd, hl, h0, h1, h => by
    obtain ⟨hi, hb, hd2⟩ := bt_cons s i c l hd
    rw [List.length_cons] at hl
    rw [sv] at h
    have hp := p10 i (by omega)
    have e : (10 : Int) ^ (i + 1) = 10 * 10 ^ i := by rw [Int.pow_succ]; omega
    by_cases g : 48 ≤ c.toNat ∧ c.toNat ≤ 57
    · rw [if_pos g] at h
      have hx := rd_loop s hs fin l (i + 1) (10 * a + ((c.toNat : Int) - 48)) hd2 (by omega) (by omega) (by omega) h
      refine Ev.step (fun k => ?_) hx
      rw [spec_l01Value.l0, if_pos (by omega), if_pos (by omega), hb, if_pos (by omega), if_pos (by omega), wid (x := 10 * a) (by omega) (by omega), show ((c.toNat : Int) - 48) % 256 = (c.toNat : Int) - 48 by omega, wid (x := 10 * a + ((c.toNat : Int) - 48)) (by omega) (by omega), wid (x := (i : Int) + 1) (by omega) (by omega), show ((i + 1 : Nat) : Int) = (i : Int) + 1 by omega]
    · rw [if_neg g] at h
      have hx := rd_loop s hs fin l (i + 1) a hd2 (by omega) h0 (by omega) h
      refine Ev.step (fun k => ?_) hx
      rw [spec_l01Value.l0, if_pos (by omega), if_pos (by omega), hb]
      by_cases g1 : (c.toNat : Int) ≥ 48
      · rw [if_pos g1, if_neg (by omega), wid (x := (i : Int) + 1) (by omega) (by omega), show ((i + 1 : Nat) : Int) = (i : Int) + 1 by omega]
      · rw [if_neg g1, wid (x := (i : Int) + 1) (by omega) (by omega), show ((i + 1 : Nat) : Int) = (i : Int) + 1 by omega]
theorem spec_rd (s : ByteArray) (hs : s.size ≤ 11) : Ev (fun k => spec_l01Value.f k s) (if -1000000000 ≤ sgn s.data.toList (sv 0 s.data.toList) ∧ sgn s.data.toList (sv 0 s.data.toList) ≤ 1000000000 ∧ Go.Lib.itoa (sgn s.data.toList (sv 0 s.data.toList)) = s.data.toList then (sgn s.data.toList (sv 0 s.data.toList), true) else (0, false)) := by
  have hb := sv_bd s.data.toList 0 0 (by decide) (by decide)
  have hl : s.data.toList.length ≤ 11 := by rw [← ba_size]; exact hs
  have hp := p10 (0 + s.data.toList.length) (by omega)
  have h1 := rd_num s hs (sv 0 s.data.toList) hb.1 (by rw [show (10 : Int) ^ 11 = 100000000000 by decide]; omega)
  have h2 := rd_loop s hs (fun _ => True) s.data.toList 0 0 rfl (by rw [← ba_size]; omega) (by decide) (by decide) h1
  unfold spec_l01Value.f
  simp only [if_neg (show ¬ (s.size : Int) > 11 by omega)]
  exact h2
theorem sv_itoa {v : Int} (h1 : -1000000000 ≤ v) (h2 : v ≤ 1000000000) : sgn (Go.Lib.itoa v) (sv 0 (Go.Lib.itoa v)) = v := by
  unfold Go.Lib.itoa
  by_cases c : v < 0
  · rw [if_pos c]
    have e := sv_vl (Go.Lib.decDigits v.natAbs) 0 (dd_dig _)
    rw [vl_dd] at e
    unfold sgn
    rw [List.head?_cons, if_pos rfl, sv, if_neg (by decide)]
    show -(sv ((0 : Nat) : Int) _) = v
    rw [e]; omega
  · rw [if_neg c]
    have e := sv_vl (Go.Lib.decDigits v.toNat) 0 (dd_dig _)
    rw [vl_dd] at e
    have hd := dd_dig v.toNat
    unfold sgn
    rw [if_neg]
    · show sv ((0 : Nat) : Int) _ = v
      rw [e]; omega
    · generalize Go.Lib.decDigits v.toNat = l at hd
      cases l with
      | nil => simp
      | cons x l =>
        intro h
        rw [List.head?_cons] at h
        injection h with h
        have := hd x (List.mem_cons_self ..)
        rw [h] at this
        exact absurd this.1 (by decide)
theorem spec_value (s : ByteArray) : Ev (fun k => spec_l01Value.f k s) (impl_ReadDecimal.out s) := by
  by_cases h : ∃ v, isNum s v
  · obtain ⟨v, hv⟩ := h
    rw [impl_rd_yes s v hv]
    have hs : s.size ≤ 11 := by rw [ba_size, ← hv.2.2]; exact itoa_len hv.1 hv.2.1
    have hx := spec_rd s hs
    rw [← hv.2.2, sv_itoa hv.1 hv.2.1, if_pos ⟨hv.1, hv.2.1, rfl⟩] at hx
    exact hx
  · rw [impl_rd_no s (fun v hv => h ⟨v, hv⟩)]
    by_cases hs : s.size ≤ 11
    · have hx := spec_rd s hs
      rw [if_neg (by rintro ⟨a, b, c⟩; exact h ⟨_, a, b, c⟩)] at hx
      exact hx
    · exact ev_all fun k => by unfold spec_l01Value.f; rw [if_pos (by omega)]
theorem impl_rd (s : ByteArray) (hs : s.size ≤ 140737488351232) : impl_ReadDecimal.f s = some (impl_ReadDecimal.out s) := by unfold impl_ReadDecimal.f; rw [if_pos hs]

theorem getD_set (xs : List Int) (i j : Nat) (v : Int) (hi : i < xs.length) : (xs.set i v).getD j 0 = if i = j then v else xs.getD j 0 := by
  rw [List.getD_eq_getElem?_getD, List.getElem?_set]
  by_cases e : i = j
  · subst e; rw [if_pos rfl, if_pos hi, if_pos rfl]; rfl
  · rw [if_neg e, if_neg e, List.getD_eq_getElem?_getD]
theorem ext_getD {xs ys : List Int} (h : xs.length = ys.length) (he : ∀ j, j < xs.length → xs.getD j 0 = ys.getD j 0) : xs = ys := by
  apply List.ext_getElem h
  intro j h1 h2
  have := he j h1
  rwa [List.getD_eq_getElem?_getD, List.getD_eq_getElem?_getD, List.getElem?_eq_getElem h1, List.getElem?_eq_getElem h2] at this
theorem rd_nat (xs : List Int) (i : Nat) : rd xs (i : Int) = xs.getD i 0 := by unfold rd; rw [Int.toNat_natCast]
theorem rd_mem (xs : List Int) (i : Nat) (h : i < xs.length) : rd xs (i : Int) ∈ xs := by
  rw [rd_nat, List.getD_eq_getElem?_getD, List.getElem?_eq_getElem h]
  exact List.getElem_mem _
theorem take_snoc (xs : List Int) (i : Nat) (h : i < xs.length) : xs.take (i + 1) = xs.take i ++ [rd xs (i : Int)] := by
  rw [List.take_succ_eq_append_getElem h, rd_nat, List.getD_eq_getElem?_getD, List.getElem?_eq_getElem h]
  rfl
theorem drop_cons (xs : List Int) (i : Nat) (h : i < xs.length) : xs.drop i = rd xs (i : Int) :: xs.drop (i + 1) := by
  rw [List.drop_eq_getElem_cons h, rd_nat, List.getD_eq_getElem?_getD, List.getElem?_eq_getElem h]
  rfl

/-! ReadList, the program's and the reference's -/
def rdAll : List Int → List (List UInt8) → List Int × Bool
  | acc, [] => (acc, true)
  | acc, w :: ws => if (impl_ReadDecimal.out ⟨w.toArray⟩).2 = true then (if acc.length = 80 then ([], false) else rdAll (acc ++ [(impl_ReadDecimal.out ⟨w.toArray⟩).1]) ws) else ([], false)
theorem rdAll_len : ∀ (ws : List (List UInt8)) (acc : List Int), acc.length ≤ 80 → (rdAll acc ws).1.length ≤ 80
  | [], acc, h => h
  | w :: ws, acc, h => by
    rw [rdAll]
    split
    · split
      · simp
      · exact rdAll_len ws _ (by simp; omega)
    · simp
theorem impl_rl_l0 (W : List ByteArray) (hW : ∀ w ∈ W, w.size ≤ 2000000) (hl : W.length ≤ 2000000) (d : Nat) : ∀ (i : Nat) (acc : List Int), W.length - i = d → i ≤ W.length → acc.length ≤ 80 →
    Ev (fun k => impl_ReadList.l0 k acc W (W.length : Int) (i : Int)) (rdAll acc ((W.drop i).map (fun w : ByteArray => w.data.toList))) := by
  induction d with
  | zero =>
    intro i acc hd hi ha
    rw [List.drop_eq_nil_of_le (by omega), List.map_nil, rdAll]
    exact ev_ret (fun k => by rw [impl_ReadList.l0, if_neg (by omega)])
  | succ d ih =>
    intro i acc hd hi ha
    have hx := fun acc h => ih (i + 1) acc (by omega) (by omega) h
    have hl2 : i < W.length := by omega
    have hr : rdOf ByteArray.empty W (i : Int) = W[i] := by unfold rdOf; rw [Int.toNat_natCast, List.getD_eq_getElem?_getD, List.getElem?_eq_getElem hl2]; rfl
    have hs := hW _ (List.getElem_mem hl2)
    rw [List.drop_eq_getElem_cons hl2, List.map_cons, rdAll, ba_mk]
    have e2 : wrap64 ((i : Int) + 1) = ((i + 1 : Nat) : Int) := by rw [wid (by omega) (by omega)]; omega
    have hf := impl_rd W[i] (by omega)
    generalize impl_ReadDecimal.out W[i] = o at hf
    by_cases c : o.2 = true
    · by_cases c2 : acc.length = 80
      · rw [if_pos c, if_pos c2]
        exact ev_ret (fun k => by rw [impl_ReadList.l0, if_pos (by omega), if_pos (by omega), if_pos (by omega), hr, hf, Option.bind_some, if_pos c, if_pos (by omega)])
      · rw [if_pos c, if_neg c2]
        refine Ev.step (fun k => ?_) (hx (acc ++ [o.1]) (by simp; omega))
        rw [impl_ReadList.l0, if_pos (by omega), if_pos (by omega), if_pos (by omega), hr, hf, Option.bind_some, if_pos c, if_neg (by omega), if_pos (by omega), e2]
    · rw [if_neg c]
      exact ev_ret (fun k => by rw [impl_ReadList.l0, if_pos (by omega), if_pos (by omega), if_pos (by omega), hr, hf, Option.bind_some, if_neg c])
def listOf (s : ByteArray) : List Int × Bool := if s.data.toList = [110, 111, 110, 101] then ([], true) else rdAll [] (pcs 32 [] s.data.toList)
theorem split_is (s : ByteArray) : (Go.Lib.splitB (⟨#[32]⟩ : ByteArray) 0 (Go.Lib.countB s (⟨#[32]⟩ : ByteArray)) s).map (fun w : ByteArray => w.data.toList) = pcs 32 [] s.data.toList := by
  rw [Go.Lib.splitB_data]
  exact split_pcs 32 s.data.toList.length _ (Nat.le_refl _)
theorem impl_rl (s : ByteArray) (hs : s.size ≤ 1048576) : Ev (fun k => impl_ReadList.f k s) (listOf s) := by
  unfold impl_ReadList.f listOf
  simp only [Option.bind_some, ByteArray.toList_eq]
  by_cases h : s.data.toList = [110, 111, 110, 101]
  · simp only [if_pos h]; exact Ev.now _
  · simp only [if_neg h]
    have hsp : strings_Split.f s (⟨#[32]⟩ : ByteArray) = some (Go.Lib.splitB (⟨#[32]⟩ : ByteArray) 0 (Go.Lib.countB s (⟨#[32]⟩ : ByteArray)) s) := by
      unfold strings_Split.f
      rw [if_pos ⟨by omega, by show 1 ≤ 1; omega⟩]
    rw [hsp]
    have hp := split_is s
    have hle := Go.Lib.splitB_length_le (⟨#[32]⟩ : ByteArray) 0 (Go.Lib.countB s (⟨#[32]⟩ : ByteArray)) s
    have hcl := Go.Lib.count_le s.data.toList [32]
    have hc2 : Go.Lib.countB s (⟨#[32]⟩ : ByteArray) ≤ s.data.toList.length + 1 := hcl
    rw [← ba_size] at hc2
    generalize Go.Lib.splitB (⟨#[32]⟩ : ByteArray) 0 (Go.Lib.countB s (⟨#[32]⟩ : ByteArray)) s = W at *
    have hW : ∀ w ∈ W, w.size ≤ 2000000 := by
      intro w hw
      have h1 : w.data.toList ∈ pcs 32 [] s.data.toList := by rw [← hp]; exact List.mem_map.2 ⟨w, hw, rfl⟩
      have h2 := pcs_len 32 _ _ _ h1
      rw [← ba_size, ← ba_size, List.length_nil] at h2
      omega
    have h0 := impl_rl_l0 W hW (by omega) W.length 0 [] (by omega) (by omega) (by simp)
    rw [List.drop_zero, hp] at h0
    exact Ev.bind (Ev.now W) h0

theorem ext_snoc (s : ByteArray) (from_ i : Nat) (c : UInt8) (l : List UInt8) (hf : from_ ≤ i) (h : s.data.toList.drop i = c :: l) : ((s.extract from_ (i + 1)).data.toList) = (s.extract from_ i).data.toList ++ [c] := by
  obtain ⟨hi, _, _⟩ := bt_cons s i c l h
  rw [ba_size] at hi
  rw [List.drop_eq_getElem_cons hi] at h
  injection h with h1 h2
  rw [Go.Lib.extract_data, Go.Lib.extract_data, ← h1]
  apply List.ext_getElem?
  intro j
  simp only [List.getElem?_take, List.getElem?_drop, List.getElem?_append, List.length_take, List.length_drop]
  by_cases q : j < i - from_
  · rw [if_pos (by omega), if_pos (by omega), if_pos (by omega)]
  · by_cases q2 : j = i - from_
    · rw [if_pos (by omega), if_neg (by omega), List.getElem?_eq_getElem (by omega)]
      have : j - min (i - from_) (s.data.toList.length - from_) = 0 := by omega
      rw [this]
      simp only [List.getElem?_cons_zero]
      congr 2
      omega
    · rw [if_neg (by omega), if_neg (by omega)]
      rw [List.getElem?_eq_none (by simp; omega)]
theorem spec_rl_l0 (s : ByteArray) (hs : s.size ≤ 1048576) (hn : s.data.toList ≠ [110, 111, 110, 101]) : ∀ (l : List UInt8) (from_ i : Nat) (acc : List Int), s.data.toList.drop i = l → i + l.length = s.size → from_ ≤ i → acc.length ≤ 80 →
    Ev (fun k => spec_l01Numbers.l0 k s acc (from_ : Int) (i : Int)) (rdAll acc (pcs 32 (s.extract from_ i).data.toList l)) := by
  have hn2 : (s.toList != ([110, 111, 110, 101] : List UInt8)) = true := by rw [ByteArray.toList_eq]; exact bne_iff_ne.2 hn
  have fin : ∀ (acc : List Int) (f : Int), Ev (fun k => spec_l01Numbers.l0 k s acc f ((s.size + 1 : Nat) : Int)) (acc, true) := fun acc f =>
    Ev.step (f := fun k => spec_l01Numbers.j1 k s acc f ((s.size + 1 : Nat) : Int) false) (fun k => by rw [spec_l01Numbers.l0, if_neg (by omega)]) (ev_ret (fun k => by rw [spec_l01Numbers.j1, if_neg (by decide)]))
  -- a piece's end
  have piece : ∀ (from_ i : Nat) (acc : List Int) (ws : List (List UInt8)), from_ ≤ i → i ≤ s.size → acc.length ≤ 80 →
      (∀ acc : List Int, acc.length ≤ 80 → Ev (fun k => spec_l01Numbers.l0 k s acc ((i + 1 : Nat) : Int) ((i + 1 : Nat) : Int)) (rdAll acc ws)) →
      Ev (fun k => spec_l01Numbers.j2 k s acc (from_ : Int) (i : Int) false) (rdAll acc ((s.extract from_ i).data.toList :: ws)) := by
    intro from_ i acc ws hf hi ha h
    have e2 : wrap64 ((i : Int) + 1) = ((i + 1 : Nat) : Int) := by rw [wid (by omega) (by omega)]; omega
    rw [rdAll, ba_mk]
    have hv := spec_value (s.extract from_ i)
    generalize impl_ReadDecimal.out (s.extract from_ i) = o at hv
    refine Ev.step (f := fun k => (spec_l01Value.f k (s.extract from_ i)).bind fun bt126 => (if bt126.2 = true then (if (acc.length : Int) = 80 then (some (([] : List Int), false)) else (if acc.length < 17592186044416 then (spec_l01Numbers.l0 k s (acc ++ [bt126.1]) ((i + 1 : Nat) : Int) ((i + 1 : Nat) : Int)) else (none))) else (some (([] : List Int), false)))) (fun k => ?_) (Ev.bind hv ?_)
    · rw [spec_l01Numbers.j2, if_neg (by decide), if_pos (by omega), if_pos (by omega), if_pos (by omega), Int.toNat_natCast, Int.toNat_natCast, e2]
    · by_cases c : o.2 = true
      · simp only [if_pos c]
        by_cases c2 : acc.length = 80
        · simp only [if_pos c2, if_pos (show (acc.length : Int) = 80 by omega)]
          exact Ev.now _
        · simp only [if_neg c2, if_neg (show ¬ (acc.length : Int) = 80 by omega), if_pos (show acc.length < 17592186044416 by omega)]
          exact h (acc ++ [o.1]) (by simp; omega)
      · simp only [if_neg c]
        exact Ev.now _
  intro l
  induction l with
  | nil =>
    intro from_ i acc hd hl hf ha
    have hi : i = s.size := by simpa using hl
    subst hi
    rw [pcs]
    refine Ev.step (f := fun k => spec_l01Numbers.j1 k s acc (from_ : Int) (s.size : Int) true) (fun k => by rw [spec_l01Numbers.l0, if_pos (by omega), hn2]) ?_
    refine Ev.step (fun k => by rw [spec_l01Numbers.j1, if_pos rfl, if_neg (by omega)]) (piece from_ s.size acc [] hf (Nat.le_refl _) ha (fun acc _ => ?_))
    rw [rdAll]
    exact fin acc _
  | cons c l ih =>
    intro from_ i acc hd hl hf ha
    obtain ⟨hi, hb, hd2⟩ := bt_cons s i c l hd
    rw [List.length_cons] at hl
    have e2 : wrap64 ((i : Int) + 1) = ((i + 1 : Nat) : Int) := by rw [wid (by omega) (by omega)]; omega
    rw [pcs]
    refine Ev.step (f := fun k => spec_l01Numbers.j1 k s acc (from_ : Int) (i : Int) true) (fun k => by rw [spec_l01Numbers.l0, if_pos (by omega), hn2]) ?_
    by_cases q : c = 32
    · rw [if_pos q]
      have hq : (bt s (i : Int) != 32) = false := by rw [hb, q]; rfl
      refine Ev.step (fun k => by rw [spec_l01Numbers.j1, if_pos rfl, if_pos (by omega), if_pos (by omega), hq]) (piece from_ i acc _ hf (by omega) ha (fun acc h => ?_))
      have := ih (i + 1) (i + 1) acc hd2 (by omega) (Nat.le_refl _) h
      have ee : (s.extract (i + 1) (i + 1)).data.toList = [] := by rw [Go.Lib.extract_data]; simp
      rw [ee] at this
      exact this
    · rw [if_neg q]
      have hq : (bt s (i : Int) != 32) = true := by
        rw [hb, bne_iff_ne]
        intro e
        exact q (UInt8.toNat_inj.1 (by show c.toNat = 32; omega))
      have := ih from_ (i + 1) acc hd2 (by omega) (by omega) ha
      rw [ext_snoc s from_ i c l hf hd] at this
      refine Ev.step (f := fun k => spec_l01Numbers.j2 k s acc (from_ : Int) (i : Int) true) (fun k => by rw [spec_l01Numbers.j1, if_pos rfl, if_pos (by omega), if_pos (by omega), hq]) (Ev.step (fun k => by rw [spec_l01Numbers.j2, if_pos rfl, e2]) this)
theorem spec_rl (s : ByteArray) (hs : s.size ≤ 1048576) : Ev (fun k => spec_l01Numbers.f k s) (listOf s) := by
  unfold spec_l01Numbers.f listOf
  by_cases h : s.data.toList = [110, 111, 110, 101]
  · rw [if_pos h]
    have hn2 : (s.toList != ([110, 111, 110, 101] : List UInt8)) = false := by rw [ByteArray.toList_eq]; exact bne_eq_false_iff_eq.2 h
    exact Ev.step (f := fun k => spec_l01Numbers.j1 k s [] 0 0 false) (fun k => by rw [spec_l01Numbers.l0, if_pos (by omega), hn2]) (ev_ret (fun k => by rw [spec_l01Numbers.j1, if_neg (by decide)]))
  · rw [if_neg h]
    have := spec_rl_l0 s hs h s.data.toList 0 0 [] rfl (by rw [← ba_size]; omega) (Nat.le_refl _) (by simp)
    have ee : (s.extract 0 0).data.toList = [] := by rw [Go.Lib.extract_data]; simp
    rw [ee] at this
    exact this

/-- A list is equal to itself. -/
theorem eqs_l (a : List Int) (ha : a.length ≤ 140737488355328) (d : Nat) : ∀ (i : Int), 0 ≤ i → (a.length : Int) - i = d → Ev (fun k => laws_eqInt64S.l0 k a a i) true := by
  induction d with
  | zero => intro i h0 hd; exact ev_ret (fun k => by rw [laws_eqInt64S.l0, if_neg (by omega)])
  | succ d ih =>
    intro i h0 hd
    refine Ev.step (fun k => ?_) (ih (i + 1) (by omega) (by omega))
    rw [laws_eqInt64S.l0, if_pos (by omega), if_pos h0, if_pos (by omega), if_pos rfl, wid (x := i + 1) (by omega) (by omega)]
theorem eqs (a : List Int) (ha : a.length ≤ 140737488355328) : Ev (fun k => laws_eqInt64S.f k a a) true := by
  unfold laws_eqInt64S.f
  simp only [if_true]
  exact eqs_l a ha a.length 0 (by omega) (by omega)

/-- A list whose numbers go up one by one from a on, as far as index i. -/
def Upto (a : Int) (n : Nat) (xs : List Int) (i : Nat) : Prop := xs.length = n ∧ ∀ j, j < i → xs.getD j 0 = a + (j : Int)
theorem upto_set {a : Int} {n i : Nat} {xs : List Int} (h : Upto a n xs i) (hi : i < n) : Upto a n (xs.set i (a + (i : Int))) (i + 1) := by
  refine ⟨by rw [List.length_set]; exact h.1, fun j hj => ?_⟩
  have hl := h.1
  rw [List.getD_eq_getElem?_getD, List.getElem?_set]
  by_cases e : i = j
  · subst e
    rw [if_pos rfl, if_pos (by omega)]
    rfl
  · rw [if_neg e, ← List.getD_eq_getElem?_getD]
    exact h.2 j (by omega)
theorem mark_l (a : Int) (n : Nat) (h1 : 0 ≤ a) (h2 : a ≤ 4611686018427387904) (hn : n ≤ 140737488355328) (d : Nat) : ∀ (i : Nat) (xs : List Int), Upto a n xs i → n - i = d → i ≤ n →
    ∃ ys, Ev (fun k => laws_markInt64S.l0 k xs (a + (i : Int)) (i : Int)) (a + (n : Int), ys) ∧ Upto a n ys n := by
  induction d with
  | zero =>
    intro i xs h hd hi
    have e : i = n := by omega
    subst e
    have hl := h.1
    exact ⟨xs, ev_ret (fun k => by rw [laws_markInt64S.l0, if_neg (by omega)]), h⟩
  | succ d ih =>
    intro i xs h hd hi
    have hl := h.1
    obtain ⟨ys, e, hy⟩ := ih (i + 1) _ (upto_set h (by omega)) (by omega) (by omega)
    refine ⟨ys, Ev.step (fun k => ?_) e, hy⟩
    rw [laws_markInt64S.l0, if_pos (by omega), if_pos (by omega), wid (x := a + (i : Int) + 1) (by omega) (by omega), wid (x := (i : Int) + 1) (by omega) (by omega), Int.toNat_natCast]
    rw [show a + ((i + 1 : Nat) : Int) = a + (i : Int) + 1 by omega, show ((i + 1 : Nat) : Int) = (i : Int) + 1 by omega]
theorem mark_I (a : Int) (xs : List Int) (h1 : 0 ≤ a) (h2 : a ≤ 4611686018427387904) (hn : xs.length ≤ 140737488355328) :
    ∃ ys, Ev (fun k => laws_markInt64S.f k xs a) (a + (xs.length : Int), ys) ∧ Upto a xs.length ys xs.length := by
  obtain ⟨ys, e, hy⟩ := mark_l a xs.length h1 h2 hn xs.length 0 xs ⟨rfl, fun j hj => by omega⟩ (by omega) (by omega)
  exact ⟨ys, by simpa [laws_markInt64S.f] using e, hy⟩

theorem held_l (a : Int) (n : Nat) (ys : List Int) (h1 : 0 ≤ a) (h2 : a ≤ 4611686018427387904) (hn : n ≤ 140737488355328) (h : Upto a n ys n) (d : Nat) : ∀ (i : Nat), n - i = d → i ≤ n →
    Ev (fun k => laws_heldInt64S.l0 k ys (a + (i : Int)) (i : Int)) (a + (n : Int)) := by
  have hl := h.1
  induction d with
  | zero =>
    intro i hd hi
    have e : i = n := by omega
    subst e
    exact ev_ret (fun k => by rw [laws_heldInt64S.l0, if_neg (by omega)])
  | succ d ih =>
    intro i hd hi
    refine Ev.step (fun k => ?_) (ih (i + 1) (by omega) (by omega))
    have hr : rd ys (i : Int) = a + (i : Int) := by unfold rd; rw [Int.toNat_natCast]; exact h.2 i (by omega)
    rw [laws_heldInt64S.l0, if_pos (by omega), if_pos (by omega), if_pos hr, wid (x := a + (i : Int) + 1) (by omega) (by omega), wid (x := (i : Int) + 1) (by omega) (by omega)]
    rw [show a + ((i + 1 : Nat) : Int) = a + (i : Int) + 1 by omega, show ((i + 1 : Nat) : Int) = (i : Int) + 1 by omega]
/-- What is marked is held. -/
theorem mark_held (a : Int) (xs : List Int) (h1 : 0 ≤ a) (h2 : a ≤ 4611686018427387904) (hn : xs.length ≤ 140737488355328) :
    ∃ ys, Ev (fun k => laws_markInt64S.f k xs a) (a + (xs.length : Int), ys) ∧ Ev (fun k => laws_heldInt64S.f k ys a) (a + (xs.length : Int)) := by
  obtain ⟨ys, e, hy⟩ := mark_l a xs.length h1 h2 hn xs.length 0 xs ⟨rfl, fun j hj => by omega⟩ (by omega) (by omega)
  have e2 := held_l a xs.length ys h1 h2 hn hy xs.length 0 (by omega) (by omega)
  refine ⟨ys, ?_, ?_⟩
  · simpa [laws_markInt64S.f] using e
  · simpa [laws_heldInt64S.f] using e2

theorem FnExactReadList : laws_FnExactReadList.Pure := by
  intro s hs
  refine Ev.rounds (r := true) ?_
  unfold laws_FnExactReadList.f
  by_cases hb : (s.size : Int) > 1048576
  · simp only [if_pos hb]; exact Ev.now _
  simp only [if_neg hb]
  have es : Ev (fun k => spec_ReadList.f k s) (listOf s) := by unfold spec_ReadList.f; exact Ev.bind (spec_rl s (by omega)) (Ev.now _)
  have ei := impl_rl s (by omega)
  have hr : (listOf s).1.length ≤ 80 := by
    unfold listOf
    split
    · simp
    · exact rdAll_len _ _ (by simp)
  generalize listOf s = r at *
  obtain ⟨ys, hm, hh⟩ := mark_held 1 r.1 (by omega) (by omega) (by omega)
  refine Ev.bind es (Ev.bind ei (Ev.bind (eqs _ (by omega)) ?_))
  simp only [bne_self_eq_false, if_true]
  refine Ev.step (fun k => by rw [laws_FnExactReadList.j0, if_neg (by decide)]) ?_
  refine Ev.bind hm (Ev.bind hh ?_)
  simp only [if_neg (show ¬ (1 + (r.1.length : Int) < 0) by omega), if_true]
  refine Ev.bind ei (Ev.bind (eqs _ (by omega)) ?_)
  simp only [bne_self_eq_false, if_true]
  refine Ev.step (fun k => by rw [laws_FnExactReadList.j1, if_neg (by decide)]) ?_
  refine Ev.bind hh (ev_all fun k => ?_)
  rw [if_neg (by omega), if_pos rfl]

end Go.Proofs.YtbfcnacllonnbaaDoor.Pure
