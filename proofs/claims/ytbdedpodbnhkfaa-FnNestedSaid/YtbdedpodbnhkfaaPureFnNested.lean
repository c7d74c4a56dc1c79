/- Loops make as many accesses as their counts tell, the first one to their base, and each next one is the stride of a loop further, less what the loops inside have gone, modulo the number of addresses. Conditions: those of the row alone. -/
import Derived.Test.YtbdedpodbnhkfaaPFnNestedx4
namespace Go.Proofs.Ytbdedpodbnhkfaa.Pure
open Go.RowKit Go.Proofs.Ytbdedpodbnhkfaa.PFnNested Go.Proofs.YtbdedpodbnhkfaaW.PrintWords Go.Proofs.YtbdedpodbnhkfaaW.PrintLast Go.Proofs.YtbdedpodbnhkfaaW.PrintMore
set_option linter.unusedVariables false
set_option linter.unusedSimpArgs false

theorem wid {x : Int} (h1 : -9223372036854775808 ≤ x) (h2 : x < 9223372036854775808) : wrap64 x = x := by unfold wrap64; omega
theorem i64_bd {x : Int} (h : (Lit.int .i64 x).wf = true) : -9223372036854775808 ≤ x ∧ x ≤ 9223372036854775807 := by
  simp only [Lit.wf, IntKind.min, IntKind.max, IntKind.signed, IntKind.bits, Bool.and_eq_true, decide_eq_true_eq, if_true] at h
  omega
/-- A loop's step, its answer known at once. -/
theorem ev_ret {α : Type} {g : Nat → Option α} {r : α} (h : ∀ k, g (k + 1) = some r) : Ev g r := Ev.step (f := fun _ => some r) h (Ev.now r)
theorem ev_all {α : Type} {g : Nat → Option α} {r : α} (h : ∀ k, g k = some r) : Ev g r := ⟨0, fun k _ => h k⟩

theorem getD_set (xs : List Int) (i j : Nat) (v : Int) (hi : i < xs.length) : (xs.set i v).getD j 0 = if i = j then v else xs.getD j 0 := by
  rw [List.getD_eq_getElem?_getD, List.getElem?_set]
  by_cases e : i = j
  · subst e; rw [if_pos rfl, if_pos hi, if_pos rfl]; rfl
  · rw [if_neg e, if_neg e, List.getD_eq_getElem?_getD]
theorem ext_getD {xs ys : List Int} (h : xs.length = ys.length) (he : ∀ j, j < xs.length → xs.getD j 0 = ys.getD j 0) : xs = ys := by
  apply List.ext_getElem h
  intro j h1 h2
  have := he j h1
  rwa [List.getD_eq_getElem?_getD, List.getD_eq_getElem?_getD, List.getElem?_eq_getElem h1, List.getElem?_eq_getElem h2] at this
theorem rd_nat (xs : List Int) (i : Nat) : rd xs (i : Int) = xs.getD i 0 := by unfold rd; rw [Int.toNat_natCast]
theorem rd_mem (xs : List Int) (i : Nat) (h : i < xs.length) : rd xs (i : Int) ∈ xs := by
  rw [rd_nat, List.getD_eq_getElem?_getD, List.getElem?_eq_getElem h]
  exact List.getElem_mem _
theorem take_snoc (xs : List Int) (i : Nat) (h : i < xs.length) : xs.take (i + 1) = xs.take i ++ [rd xs (i : Int)] := by
  rw [List.take_succ_eq_append_getElem h, rd_nat, List.getD_eq_getElem?_getD, List.getElem?_eq_getElem h]
  rfl
theorem drop_cons (xs : List Int) (i : Nat) (h : i < xs.length) : xs.drop i = rd xs (i : Int) :: xs.drop (i + 1) := by
  rw [List.drop_eq_getElem_cons h, rd_nat, List.getD_eq_getElem?_getD, List.getElem?_eq_getElem h]
  rfl

theorem u8_bd {x : Int} (h : (Lit.int .u8 x).wf = true) : 0 ≤ x ∧ x ≤ 255 := by
  simp [Lit.wf, IntKind.min, IntKind.max, IntKind.signed, IntKind.bits] at h
  exact h

/-! the source that draws -/
theorem and255 (a : Int) : 0 ≤ Go.bits .and .u64 a 255 ∧ Go.bits .and .u64 a 255 ≤ 255 := by
  have h : ((BitVec.ofInt 64 a) &&& (BitVec.ofInt 64 255)).toNat ≤ 255 := by
    rw [BitVec.toNat_and]
    exact Nat.and_le_right
  have e : Go.bits .and .u64 a 255 = IntKind.u64.wrap ((((BitVec.ofInt 64 a) &&& (BitVec.ofInt 64 255)).toNat : Nat) : Int) := rfl
  rw [e]
  generalize ((BitVec.ofInt 64 a) &&& (BitVec.ofInt 64 255)).toNat = n at h
  simp only [IntKind.wrap, IntKind.bits, IntKind.signed]
  simp
  omega
theorem next_ok (l : List Int) (u : ∀ x ∈ l, (Lit.int .u8 x).wf = true) (at_ sd : Int) (h0 : 0 ≤ at_) (h1 : at_ ≤ 4611686018427387904) :
    ∃ t sd', spec_l00Src_next.f l at_ sd = some (t, at_ + 1, sd') ∧ 0 ≤ t ∧ t ≤ 255 := by
  have hw : wrap64 (at_ + 1) = at_ + 1 := wid (by omega) (by omega)
  unfold spec_l00Src_next.f
  rw [hw]
  by_cases h : at_ < (l.length : Int)
  · obtain ⟨i, rfl⟩ := Int.eq_ofNat_of_zero_le h0
    have hb := u8_bd (u _ (rd_mem l i (by omega)))
    rw [if_pos h, if_pos h0, if_pos (by omega), wid (x := rd l (i : Int)) (by omega) (by omega)]
    exact ⟨_, _, rfl, hb⟩
  · rw [if_neg h, if_neg (by omega)]
    refine ⟨_, _, rfl, ?_⟩
    have := and255 ((IntKind.u64.wrap (IntKind.u64.wrap (IntKind.u64.wrap (sd * 6364136223846793005)) + 1442695040888963407)) / 1099511627776)
    rw [wid (by omega) (by omega)]
    exact this
theorem pick_ok (l : List Int) (u : ∀ x ∈ l, (Lit.int .u8 x).wf = true) (at_ sd n : Int) (h0 : 0 ≤ at_) (h1 : at_ ≤ 2305843009213693952) (hn : 1 ≤ n) (hn2 : n ≤ 65536) :
    ∃ t at' sd', spec_l00Src_pick.f l at_ sd n = some (t, at', sd') ∧ 0 ≤ t ∧ t < n ∧ at_ ≤ at' ∧ at' ≤ at_ + 2 := by
  unfold spec_l00Src_pick.f
  by_cases h : n ≤ 1
  · rw [if_pos h]
    exact ⟨0, at_, sd, rfl, by omega, by omega, by omega, by omega⟩
  · rw [if_neg h]
    obtain ⟨t, sd1, e1, a1, b1⟩ := next_ok l u at_ sd h0 (by omega)
    rw [e1, Option.bind_some]
    by_cases g : n > 200
    · rw [if_pos g]
      obtain ⟨t2, sd2, e2, a2, b2⟩ := next_ok l u (at_ + 1) sd1 (by omega) (by omega)
      show ∃ t at' sd', (spec_l00Src_next.f l (at_ + 1) sd1).bind _ = some (t, at', sd') ∧ _
      rw [e2, Option.bind_some, if_neg (by omega)]
      have w1 : wrap64 (t * 256) = t * 256 := wid (by omega) (by omega)
      have w2 : wrap64 (t * 256 + t2) = t * 256 + t2 := wid (by omega) (by omega)
      refine ⟨_, _, _, rfl, ?_, ?_, (show at_ ≤ at_ + 1 + 1 by omega), (show at_ + 1 + 1 ≤ at_ + 2 by omega)⟩
      · show 0 ≤ Int.tmod (wrap64 (wrap64 (t * 256) + t2)) n
        rw [w1, w2, Int.tmod_eq_emod_of_nonneg (by omega)]; exact Int.emod_nonneg _ (by omega)
      · show Int.tmod (wrap64 (wrap64 (t * 256) + t2)) n < n
        rw [w1, w2, Int.tmod_eq_emod_of_nonneg (by omega)]; exact Int.emod_lt_of_pos _ (by omega)
    · rw [if_neg g, if_neg (by omega)]
      refine ⟨_, _, _, rfl, ?_, ?_, (show at_ ≤ at_ + 1 by omega), (show at_ + 1 ≤ at_ + 2 by omega)⟩
      · show 0 ≤ Int.tmod t n
        rw [Int.tmod_eq_emod_of_nonneg a1]; exact Int.emod_nonneg _ (by omega)
      · show Int.tmod t n < n
        rw [Int.tmod_eq_emod_of_nonneg a1]; exact Int.emod_lt_of_pos _ (by omega)

theorem r8nest_l (l : List Int) (u : ∀ x ∈ l, (Lit.int .u8 x).wf = true) (kd b : Int) (n : Nat) : ∀ (C S : List Int) (at_ sd : Int), 0 ≤ at_ → at_ + 4 * n ≤ 1000 → C.length + n ≤ 1000 → S.length + n ≤ 1000 →
    ∃ D T, Ev (fun k => spec_R8Nest.l0 k (n : Int) l at_ sd kd b C S) (kd, b, C ++ D, S ++ T) ∧ D.length = n ∧ T.length = n ∧ (∀ x ∈ D, 1 ≤ x ∧ x ≤ 3) ∧ (∀ x ∈ T, -20 ≤ x ∧ x ≤ 20) := by
  induction n with
  | zero =>
    intro C S at_ sd h0 h1 h2 h3
    exact ⟨[], [], ev_ret (fun k => by rw [spec_R8Nest.l0, if_neg (by omega), List.append_nil, List.append_nil]), rfl, rfl, fun x h => absurd h (by simp), fun x h => absurd h (by simp)⟩
  | succ n ih =>
    intro C S at_ sd h0 h1 h2 h3
    obtain ⟨t, at1, sd1, e1, a1, b1, c1, d1⟩ := pick_ok l u at_ sd 3 h0 (by omega) (by omega) (by omega)
    obtain ⟨t2, at2, sd2, e2, a2, b2, c2, d2⟩ := pick_ok l u at1 sd1 41 (by omega) (by omega) (by omega) (by omega)
    obtain ⟨D, T, e3, hD, hT, hD2, hT2⟩ := ih (C ++ [1 + t]) (S ++ [t2 - 20]) at2 sd2 (by omega) (by omega) (by simp; omega) (by simp; omega)
    refine ⟨(1 + t) :: D, (t2 - 20) :: T, ?_, by simp [hD], by simp [hT], fun x h => ?_, fun x h => ?_⟩
    · rw [List.append_cons, List.append_cons S]
      refine Ev.step (fun k => ?_) e3
      rw [spec_R8Nest.l0, if_pos (by omega), e1, Option.bind_some, if_pos (by omega), e2, Option.bind_some, if_pos (by omega), wid (x := 1 + t) (by omega) (by omega), wid (x := t2 - 20) (by omega) (by omega), wid (x := ((n + 1 : Nat) : Int) - 1) (by omega) (by omega), show ((n + 1 : Nat) : Int) - 1 = (n : Int) by omega]
    · rcases List.mem_cons.1 h with rfl | h
      · omega
      · exact hD2 x h
    · rcases List.mem_cons.1 h with rfl | h
      · omega
      · exact hT2 x h
theorem r8nest (l : List Int) (u : ∀ x ∈ l, (Lit.int .u8 x).wf = true) : ∃ kd b C S, Ev (fun k => spec_R8Nest.f k l) (kd, b, C, S) ∧ 0 ≤ kd ∧ kd ≤ 1 ∧ 0 ≤ b ∧ b ≤ 63 ∧ C.length ≤ 3 ∧ S.length = C.length ∧ (∀ x ∈ C, 1 ≤ x ∧ x ≤ 3) ∧ (∀ x ∈ S, -20 ≤ x ∧ x ≤ 20) := by
  unfold spec_R8Nest.f spec_l00From.f
  simp only [Option.bind_some]
  obtain ⟨t, at1, sd1, e1, a1, b1, c1, d1⟩ := pick_ok l u 0 0 2 (by omega) (by omega) (by omega) (by omega)
  obtain ⟨t2, at2, sd2, e2, a2, b2, c2, d2⟩ := pick_ok l u at1 sd1 64 (by omega) (by omega) (by omega) (by omega)
  obtain ⟨t3, at3, sd3, e3, a3, b3, c3, d3⟩ := pick_ok l u at2 sd2 4 (by omega) (by omega) (by omega) (by omega)
  simp only [e1, e2, e3, Option.bind_some]
  obtain ⟨m, rfl⟩ := Int.eq_ofNat_of_zero_le a3
  obtain ⟨D, T, e4, hD, hT, hD2, hT2⟩ := r8nest_l l u t t2 m [] [] at3 sd3 (by omega) (by omega) (by simp; omega) (by simp; omega)
  rw [List.nil_append, List.nil_append] at e4
  exact ⟨t, t2, D, T, e4, a1, by omega, a2, by omega, by omega, by omega, hD2, hT2⟩

theorem gset {α : Type} (d : α) (xs : List α) (i j : Nat) (v : α) (hi : i < xs.length) : (xs.set i v).getD j d = if i = j then v else xs.getD j d := by
  rw [List.getD_eq_getElem?_getD, List.getElem?_set]
  by_cases e : i = j
  · subst e; rw [if_pos rfl, if_pos hi, if_pos rfl]; rfl
  · rw [if_neg e, if_neg e, List.getD_eq_getElem?_getD]
theorem gext {α : Type} (d : α) {xs ys : List α} (h : xs.length = ys.length) (he : ∀ j, j < xs.length → xs.getD j d = ys.getD j d) : xs = ys := by
  apply List.ext_getElem h
  intro j h1 h2
  have := he j h1
  rwa [List.getD_eq_getElem?_getD, List.getD_eq_getElem?_getD, List.getElem?_eq_getElem h1, List.getElem?_eq_getElem h2] at this
theorem gmem {α : Type} (d : α) (xs : List α) (i : Nat) (h : i < xs.length) : xs.getD i d ∈ xs := by
  rw [List.getD_eq_getElem?_getD, List.getElem?_eq_getElem h]
  exact List.getElem_mem _
theorem gdrop {α : Type} (d : α) (xs : List α) (i : Nat) (h : i < xs.length) : xs.drop i = xs.getD i d :: xs.drop (i + 1) := by
  rw [List.drop_eq_getElem_cons h, List.getD_eq_getElem?_getD, List.getElem?_eq_getElem h]
  rfl
theorem gmap {α β : Type} (d : α) (e : β) (f : α → β) (xs : List α) (i : Nat) (h : i < xs.length) : (xs.map f).getD i e = f (xs.getD i d) := by
  rw [List.getD_eq_getElem?_getD, List.getD_eq_getElem?_getD, List.getElem?_map, List.getElem?_eq_getElem h]
  rfl

/-! accesses -/
theorem rdA (xs : List S32) (i : Nat) : rd_T32 xs (i : Int) = xs.getD i z32 := by unfold rd_T32; rw [Int.toNat_natCast]

def r8longOf (l0 l1 : List Int) : Bool := decide ((l0.length : Int) > 48 ∨ (l1.length : Int) > 48)
theorem r8Long_is (l0 l1 : List Int) : laws_r8Long.f l0 l1 = some (r8longOf l0 l1) := by
  unfold laws_r8Long.f r8longOf
  by_cases h : (l0.length : Int) > 48
  · rw [if_pos h, decide_eq_true (Or.inl h)]
  · rw [if_neg h]
    by_cases g : (l1.length : Int) > 48
    · rw [decide_eq_true g, decide_eq_true (Or.inr g)]
    · rw [decide_eq_false g, decide_eq_false (by omega)]

/-! what NestTrace makes -/
def off : List Int → List Int → Int
  | s :: S, n :: N => n * s + off S N
  | _, _ => 0
/-- The loops' states, in order. -/
def Dg : List Int → List (List Int)
  | [] => [[]]
  | c :: C => (List.range c.toNat).flatMap (fun (k : Nat) => (Dg C).map (fun N => (k : Int) :: N))
def stepP (P : List Int) (c s : Int) : List Int := P.flatMap (fun p => (List.range c.toNat).map (fun (k : Nat) => p + (k : Int) * s))
def nestP : List Int → List Int → List Int → List Int
  | P, c :: C, s :: S => nestP (stepP P c s) C S
  | P, _, _ => P
theorem nestP_is : ∀ (C S P : List Int), S.length = C.length → nestP P C S = P.flatMap (fun p => (Dg C).map (fun N => p + off S N))
  | [], [], P, _ => by
    have e0 : nestP P [] [] = P := rfl
    have : (fun p : Int => (Dg []).map (fun N => p + off [] N)) = fun p => [p] := by funext p; simp [Dg, off]
    rw [this, e0]
    have go : ∀ Q : List Int, Q = Q.flatMap (fun p => [p]) := by
      intro Q
      induction Q with
      | nil => rfl
      | cons a Q ih => rw [List.flatMap_cons, ← ih]; rfl
    exact go P
  | c :: C, s :: S, P, h => by
    rw [nestP, nestP_is C S _ (by simpa using h), stepP, List.flatMap_assoc]
    congr 1
    funext p
    rw [Dg, List.map_flatMap, List.flatMap_map]
    congr 1
    funext k
    rw [List.map_map]
    congr 1
    funext N
    simp only [Function.comp, off]
    omega
theorem stepP_len (c s : Int) : ∀ (P : List Int), (stepP P c s).length = P.length * c.toNat
  | [] => by simp [stepP]
  | p :: P => by
    have := stepP_len c s P
    unfold stepP at this ⊢
    rw [List.flatMap_cons, List.length_append, this, List.length_map, List.length_range, List.length_cons, Nat.succ_mul]
    omega
theorem tm64 (p : Int) : Int.tmod (Int.tmod p 64 + 64) 64 = p % 64 := by
  have h1 := Int.mul_tdiv_add_tmod p 64
  have h2 := Int.tmod_lt_of_pos p (show (0 : Int) < 64 by omega)
  have h3 : -64 < Int.tmod p 64 := Int.lt_tmod_of_pos p (by omega)
  rw [Int.tmod_eq_emod_of_nonneg (by omega)]
  omega
section
variable (kd b : Int) (CC SS : List Int)
theorem nest_l2 (i : Nat) (s : Int) (hi : i < SS.length) (hs : rd SS (i : Int) = s) (hb : -20 ≤ s ∧ s ≤ 20) (c : Nat) (hc : c ≤ 3) (p : Int) (hp : -1000 ≤ p ∧ p ≤ 1000) (P : List Int) (n j : Nat) (hj : j < P.length) (hP : P.length ≤ 1000) {r : List S32 × Bool} (d : Nat) :
    ∀ (q : Nat) (acc : List Int), q + d = c → acc.length ≤ 100000 - 3 + q → Ev (fun k => impl_NestTrace.l1 k (i : Int) (c : Int) (acc ++ (List.range' q d).map (fun (t : Nat) => p + (t : Int) * s)) CC (n : Int) (i : Int) P (P.length : Int) ((j + 1 : Nat) : Int) kd b CC SS) r →
    Ev (fun k => impl_NestTrace.l2 k (i : Int) (c : Int) acc p CC (n : Int) (i : Int) P (P.length : Int) (j : Int) (c : Int) (q : Int) kd b CC SS) r := by
  induction d with
  | zero =>
    intro q acc hq ha h
    rw [List.range'_zero, List.map_nil, List.append_nil] at h
    refine Ev.step (fun k => ?_) h
    rw [impl_NestTrace.l2, if_neg (by omega), wid (x := (j : Int) + 1) (by omega) (by omega), show ((j + 1 : Nat) : Int) = (j : Int) + 1 by omega]
  | succ d ih =>
    intro q acc hq ha h
    rw [List.range'_succ, List.map_cons, List.append_cons] at h
    have hx := ih (q + 1) (acc ++ [p + (q : Int) * s]) (by omega) (by simp; omega) h
    have hqs : -60 ≤ (q : Int) * s ∧ (q : Int) * s ≤ 60 := by
      have hq2 : q = 0 ∨ q = 1 ∨ q = 2 := by omega
      rcases hq2 with rfl | rfl | rfl <;> omega
    refine Ev.step (fun k => ?_) hx
    rw [impl_NestTrace.l2, if_pos (by omega), if_pos (by omega), if_pos (by omega), if_pos (by omega), hs, wid (x := (q : Int) * s) (by omega) (by omega), wid (x := p + (q : Int) * s) (by omega) (by omega), wid (x := (q : Int) + 1) (by omega) (by omega), show ((q + 1 : Nat) : Int) = (q : Int) + 1 by omega]
theorem nest_l1 (i : Nat) (s : Int) (hi : i < SS.length) (hi3 : i ≤ 3) (hs : rd SS (i : Int) = s) (hb : -20 ≤ s ∧ s ≤ 20) (c : Nat) (hc : c ≤ 3) (P : List Int) (hP : P.length ≤ 9) (hPb : ∀ p ∈ P, -1000 ≤ p ∧ p ≤ 1000) (n : Nat) {r : List S32 × Bool}
    (h : Ev (fun k => impl_NestTrace.l0 k (stepP P (c : Int) s) CC (n : Int) ((i + 1 : Nat) : Int) kd b CC SS) r) (d : Nat) :
    ∀ (j : Nat), P.length - j = d → j ≤ P.length → Ev (fun k => impl_NestTrace.l1 k (i : Int) (c : Int) (stepP (P.take j) (c : Int) s) CC (n : Int) (i : Int) P (P.length : Int) (j : Int) kd b CC SS) r := by
  induction d with
  | zero =>
    intro j hd hj
    rw [List.take_of_length_le (by omega)]
    refine Ev.step (fun k => ?_) h
    have hl := stepP_len (c : Int) s P
    have : P.length * (c : Int).toNat ≤ 9 * 3 := Nat.mul_le_mul hP (by omega)
    rw [impl_NestTrace.l1, if_neg (by omega), if_neg (by omega), wid (x := (i : Int) + 1) (by omega) (by omega), show ((i + 1 : Nat) : Int) = (i : Int) + 1 by omega]
  | succ d ih =>
    intro j hd hj
    have hx := ih (j + 1) (by omega) (by omega)
    have e1 : stepP (P.take (j + 1)) (c : Int) s = stepP (P.take j) (c : Int) s ++ (List.range' 0 c).map (fun (t : Nat) => rd P (j : Int) + (t : Int) * s) := by
      rw [take_snoc P j (by omega)]
      unfold stepP
      rw [List.flatMap_append, List.flatMap_cons, List.flatMap_nil, List.append_nil, Int.toNat_natCast, List.range_eq_range']
    rw [e1] at hx
    have hl := stepP_len (c : Int) s (P.take j)
    rw [List.length_take] at hl
    have hm : min j P.length * (c : Int).toNat ≤ 9 * 3 := Nat.mul_le_mul (by omega) (by omega)
    refine Ev.step (fun k => ?_) (nest_l2 kd b CC SS i s hi hs hb c hc (rd P (j : Int)) (hPb _ (rd_mem P j (by omega))) P n j (by omega) (by omega) c 0 _ (by omega) (by omega) hx)
    rw [impl_NestTrace.l1, if_pos (by omega), if_pos (by omega), if_pos (by omega)]
    rfl
theorem nest_l0 (hl : SS.length = CC.length) (h3 : CC.length ≤ 3) (hC : ∀ x ∈ CC, 1 ≤ x ∧ x ≤ 3) (hS : ∀ x ∈ SS, -20 ≤ x ∧ x ≤ 20) {r : List S32 × Bool} (Q : List Int)
    (h : Ev (fun k => impl_NestTrace.l3 k [] Q (Q.length : Int) 0 kd b CC SS) r) (d : Nat) :
    ∀ (i : Nat) (P : List Int), CC.length - i = d → i ≤ CC.length → P.length ≤ 3 ^ i → (∀ p ∈ P, -(63 + 40 * (i : Int)) ≤ p ∧ p ≤ 63 + 40 * (i : Int)) → nestP P (CC.drop i) (SS.drop i) = Q →
      Ev (fun k => impl_NestTrace.l0 k P CC (CC.length : Int) (i : Int) kd b CC SS) r := by
  induction d with
  | zero =>
    intro i P hd hi hP hPb hQ
    rw [List.drop_eq_nil_of_le (by omega), List.drop_eq_nil_of_le (by omega)] at hQ
    have hQ' : P = Q := hQ
    subst hQ'
    exact Ev.step (fun k => by rw [impl_NestTrace.l0, if_neg (by omega)]) h
  | succ d ih =>
    intro i P hd hi hP hPb hQ
    rw [drop_cons CC i (by omega), drop_cons SS i (by omega), nestP] at hQ
    have hc := hC _ (rd_mem CC i (by omega))
    have hs := hS _ (rd_mem SS i (by omega))
    obtain ⟨c, hce⟩ : ∃ c : Nat, rd CC (i : Int) = (c : Int) := ⟨(rd CC (i : Int)).toNat, by omega⟩
    rw [hce] at hQ hc
    have hP9 : P.length ≤ 9 := by
      have : i = 0 ∨ i = 1 ∨ i = 2 := by omega
      rcases this with rfl | rfl | rfl <;> omega
    have hsl := stepP_len (c : Int) (rd SS (i : Int)) P
    have hx := ih (i + 1) (stepP P (c : Int) (rd SS (i : Int))) (by omega) (by omega) (by rw [hsl, Nat.pow_succ]; exact Nat.mul_le_mul hP (by omega)) (fun q hq => ?_) hQ
    · refine Ev.step (fun k => ?_) (nest_l1 kd b CC SS i (rd SS (i : Int)) (by omega) (by omega) rfl hs c (by omega) P hP9 (fun p hp => by have := hPb p hp; omega) CC.length hx P.length 0 (by omega) (by omega))
      rw [impl_NestTrace.l0, if_pos (by omega), if_pos (by omega), if_pos (by omega), hce]
      rfl
    · unfold stepP at hq
      obtain ⟨p, hp, hq2⟩ := List.mem_flatMap.1 hq
      obtain ⟨k, hk, rfl⟩ := List.mem_map.1 hq2
      rw [List.mem_range] at hk
      have hb := hPb p hp
      have hk2 : k = 0 ∨ k = 1 ∨ k = 2 := by omega
      generalize rd SS (i : Int) = s at hs
      rcases hk2 with rfl | rfl | rfl <;> omega
theorem nest_l3 (Q : List Int) (hQ : Q.length ≤ 1000) (hb : ∀ p ∈ Q, -1000 ≤ p ∧ p ≤ 1000) (d : Nat) : ∀ (i : Nat) (acc : List S32), Q.length - i = d → i ≤ Q.length → acc.length ≤ i →
    Ev (fun k => impl_NestTrace.l3 k acc Q (Q.length : Int) (i : Int) kd b CC SS) (acc ++ (Q.drop i).map (fun p => (⟨kd, p % 64⟩ : S32)), true) := by
  induction d with
  | zero =>
    intro i acc hd hi ha
    rw [List.drop_eq_nil_of_le (by omega), List.map_nil, List.append_nil]
    exact ev_ret (fun k => by rw [impl_NestTrace.l3, if_neg (by omega)])
  | succ d ih =>
    intro i acc hd hi ha
    have hp := hb _ (rd_mem Q i (by omega))
    have hx := ih (i + 1) (acc ++ [(⟨kd, rd Q (i : Int) % 64⟩ : S32)]) (by omega) (by omega) (by simp; omega)
    rw [← List.append_cons] at hx
    rw [drop_cons Q i (by omega), List.map_cons]
    have h2 := Int.tmod_lt_of_pos (rd Q (i : Int)) (show (0 : Int) < 64 by omega)
    have h3 : -64 < Int.tmod (rd Q (i : Int)) 64 := Int.lt_tmod_of_pos _ (by omega)
    refine Ev.step (fun k => ?_) hx
    rw [impl_NestTrace.l3, if_pos (by omega), if_pos (by omega), if_pos (by omega), if_pos (by omega), wid (x := Int.tmod (rd Q (i : Int)) 64 + 64) (by omega) (by omega), tm64, wid (x := (i : Int) + 1) (by omega) (by omega), show ((i + 1 : Nat) : Int) = (i : Int) + 1 by omega]
end
theorem nestP_bd : ∀ (C S P : List Int) (m : Int), S.length = C.length → (∀ x ∈ C, 1 ≤ x ∧ x ≤ 3) → (∀ x ∈ S, -20 ≤ x ∧ x ≤ 20) → (∀ p ∈ P, -m ≤ p ∧ p ≤ m) → (nestP P C S).length ≤ P.length * 3 ^ C.length ∧ ∀ p ∈ nestP P C S, -(m + 40 * (C.length : Int)) ≤ p ∧ p ≤ m + 40 * (C.length : Int)
  | [], [], P, m, _, _, _, hP => by
    have e0 : nestP P [] [] = P := rfl
    rw [e0]; exact ⟨by simp, fun p hp => by have := hP p hp; simp; omega⟩
  | c :: C, s :: S, P, m, hl, hC, hS, hP => by
    have hc := hC c (List.mem_cons_self ..)
    have hs := hS s (List.mem_cons_self ..)
    have hsl := stepP_len c s P
    obtain ⟨h1, h2⟩ := nestP_bd C S (stepP P c s) (m + 40) (by simpa using hl) (fun x hx => hC x (List.mem_cons_of_mem _ hx)) (fun x hx => hS x (List.mem_cons_of_mem _ hx)) (fun q hq => by
      unfold stepP at hq
      obtain ⟨p, hp, hq2⟩ := List.mem_flatMap.1 hq
      obtain ⟨k, hk, rfl⟩ := List.mem_map.1 hq2
      rw [List.mem_range] at hk
      have hb := hP p hp
      have hk2 : k = 0 ∨ k = 1 ∨ k = 2 := by omega
      rcases hk2 with rfl | rfl | rfl <;> omega)
    rw [nestP]
    refine ⟨?_, fun p hp => ?_⟩
    · refine Nat.le_trans h1 ?_
      rw [hsl, List.length_cons, Nat.pow_succ, Nat.mul_comm (3 ^ C.length) 3, ← Nat.mul_assoc]
      exact Nat.mul_le_mul (Nat.mul_le_mul (Nat.le_refl _) (by omega)) (Nat.le_refl _)
    · have := h2 p hp
      rw [List.length_cons]
      omega
def nestOut (kd b : Int) (C S : List Int) : List S32 := (Dg C).map (fun N => (⟨kd, (b + off S N) % 64⟩ : S32))
theorem impl_nest (kd b : Int) (C S : List Int) (k0 : 0 ≤ kd) (k1 : kd ≤ 1) (b0 : 0 ≤ b) (b1 : b ≤ 63) (hC : C.length ≤ 3) (hS : S.length = C.length) (hC2 : ∀ x ∈ C, 1 ≤ x ∧ x ≤ 3) (hS2 : ∀ x ∈ S, -20 ≤ x ∧ x ≤ 20) :
    Ev (fun k => impl_NestTrace.f k kd b C S) (nestOut kd b C S, true) := by
  have r1 : impl_isKind.f kd = some true := by unfold impl_isKind.f impl_inRange.f; rw [if_pos k0, Option.bind_some, decide_eq_true k1]
  have r2 : impl_isAddress.f b = some true := by unfold impl_isAddress.f impl_inRange.f; rw [if_pos b0, Option.bind_some, decide_eq_true b1]
  have r3 : impl_allIn.f C 1 60 = some true := by
    unfold impl_allIn.f
    congr 1
    rw [List.all_eq_true]
    intro x hx
    have := hC2 x hx
    rw [Bool.and_eq_true, decide_eq_true_eq, decide_eq_true_eq]; omega
  have r4 : impl_allIn.f S (-1000) 1000 = some true := by
    unfold impl_allIn.f
    congr 1
    rw [List.all_eq_true]
    intro x hx
    have := hS2 x hx
    rw [Bool.and_eq_true, decide_eq_true_eq, decide_eq_true_eq]; omega
  unfold impl_NestTrace.f
  simp only [r1, r2, r3, r4, Option.bind_some, if_true, if_neg (show ¬ ((C.length : Int) > 3) by omega), hS, Bool.not_true]
  refine Ev.step (fun k => by rw [impl_NestTrace.j0, if_neg (by decide)]) ?_
  obtain ⟨q1, q2⟩ := nestP_bd C S [b] 63 hS hC2 hS2 (fun p hp => by rw [List.mem_singleton] at hp; omega)
  have hq1 : (nestP [b] C S).length ≤ 27 := by
    have hc : C.length = 0 ∨ C.length = 1 ∨ C.length = 2 ∨ C.length = 3 := by omega
    rcases hc with e | e | e | e <;> rw [e] at q1 <;> simpa using Nat.le_trans q1 (by simp)
  have e3 := nest_l3 kd b C S (nestP [b] C S) (by omega) (fun p hp => by have := q2 p hp; omega) _ 0 [] rfl (by omega) (by simp)
  have e4 : (nestP [b] C S).map (fun p => (⟨kd, p % 64⟩ : S32)) = nestOut kd b C S := by
    rw [nestP_is C S [b] hS, List.flatMap_cons, List.flatMap_nil, List.append_nil, List.map_map]
    rfl
  rw [List.drop_zero, List.nil_append, e4] at e3
  exact nest_l0 kd b C S hS hC hC2 hS2 (nestP [b] C S) e3 _ 0 [b] rfl (by omega) (by simp) (fun p hp => by rw [List.mem_singleton] at hp; omega) rfl

/-! one state after another -/
def zs (C : List Int) : List Int := C.map (fun _ => (0 : Int))
def mxs (C : List Int) : List Int := C.map (fun c => c - 1)
def Nx (C N N' : List Int) : Prop := ∃ C1 c C2 P d, C = C1 ++ c :: C2 ∧ P.length = C1.length ∧ N = P ++ d :: mxs C2 ∧ N' = P ++ (d + 1) :: zs C2 ∧ (0 : Int) ≤ d ∧ d + 1 < c
def Sq (C : List Int) : List Int → List (List Int) → Prop
  | N, [] => N = mxs C
  | N, N' :: L => Nx C N N' ∧ Sq C N' L
theorem sq_cons (c k : Int) (C : List Int) (R : List (List Int)) (hR : Sq (c :: C) (k :: mxs C) R) : ∀ (L : List (List Int)) (N : List Int), Sq C N L → Sq (c :: C) (k :: N) (L.map (fun N => k :: N) ++ R)
  | [], N, h => by
    have e : N = mxs C := h
    rw [e]; exact hR
  | N' :: L, N, h => by
    obtain ⟨⟨C1, c1, C2, P, d, e1, e2, e3, e4, e5, e6⟩, h2⟩ := h
    exact ⟨⟨c :: C1, c1, C2, k :: P, d, by rw [e1]; rfl, by simp [e2], by rw [e3]; rfl, by rw [e4]; rfl, e5, e6⟩, sq_cons c k C R hR L N' h2⟩
theorem dg_seq : ∀ (C : List Int), (∀ x ∈ C, 1 ≤ x ∧ x ≤ 3) → ∃ L, Dg C = zs C :: L ∧ Sq C (zs C) L
  | [], _ => ⟨[], rfl, rfl⟩
  | c :: C, h => by
    obtain ⟨L, e, hs⟩ := dg_seq C (fun x hx => h x (List.mem_cons_of_mem _ hx))
    have hc := h c (List.mem_cons_self ..)
    obtain ⟨n, rfl⟩ : ∃ n : Nat, c = ((n + 1 : Nat) : Int) := ⟨c.toNat - 1, by omega⟩
    have bl : ∀ (m k : Nat), k + m = n → Sq (((n + 1 : Nat) : Int) :: C) ((k : Int) :: mxs C) ((List.range' (k + 1) m).flatMap (fun (k : Nat) => (Dg C).map (fun N => (k : Int) :: N))) := by
      intro m
      induction m with
      | zero =>
        intro k hk
        show (k : Int) :: mxs C = (((n + 1 : Nat) : Int) - 1) :: mxs C
        rw [show ((n + 1 : Nat) : Int) - 1 = (k : Int) by omega]
      | succ m ih =>
        intro k hk
        rw [List.range'_succ, List.flatMap_cons, e, List.map_cons]
        refine ⟨⟨[], ((n + 1 : Nat) : Int), C, [], (k : Int), rfl, rfl, rfl, ?_, by omega, by omega⟩, ?_⟩
        · show ((k + 1 : Nat) : Int) :: zs C = ((k : Int) + 1) :: zs C
          rw [show ((k + 1 : Nat) : Int) = (k : Int) + 1 by omega]
        · have := ih (k + 1) (by omega)
          rw [e] at this
          exact sq_cons _ _ C _ this L (zs C) hs
    refine ⟨L.map (fun N => (0 : Int) :: N) ++ (List.range' 1 n).flatMap (fun (k : Nat) => (Dg C).map (fun N => (k : Int) :: N)), ?_, ?_⟩
    · rw [Dg, Int.toNat_natCast, List.range_eq_range', List.range'_succ, List.flatMap_cons, e, List.map_cons]
      rfl
    · have := bl n 0 (by omega)
      exact sq_cons _ 0 C _ this L (zs C) hs
theorem rd_app (A : List Int) (x : Int) (B : List Int) (i : Nat) (h : i = A.length) : rd (A ++ x :: B) (i : Int) = x := by
  subst h
  rw [rd_nat, List.getD_eq_getElem?_getD, List.getElem?_append_right (Nat.le_refl _), Nat.sub_self]
  rfl
theorem set_app (y : Int) : ∀ (A : List Int) (x : Int) (B : List Int) (i : Nat), i = A.length → (A ++ x :: B).set i y = A ++ y :: B
  | [], x, B, i, h => by subst h; rfl
  | a :: A, x, B, i, h => by
    subst h
    show a :: (A ++ x :: B).set A.length y = a :: (A ++ y :: B)
    rw [set_app y A x B A.length rfl]
theorem off_app : ∀ (S1 P : List Int) (s d : Int) (S2 T : List Int), S1.length = P.length → off (S1 ++ s :: S2) (P ++ d :: T) = off S1 P + d * s + off S2 T
  | [], [], s, d, S2, T, _ => by
    show d * s + off S2 T = 0 + d * s + off S2 T
    omega
  | x :: S1, p :: P, s, d, S2, T, h => by
    show p * x + off (S1 ++ s :: S2) (P ++ d :: T) = p * x + off S1 P + d * s + off S2 T
    rw [off_app S1 P s d S2 T (by simpa using h)]
    omega
theorem off_zs : ∀ (S C : List Int), off S (zs C) = 0
  | [], C => by cases C <;> rfl
  | s :: S, [] => rfl
  | s :: S, c :: C => by
    show 0 * s + off S (zs C) = 0
    rw [off_zs S C]; omega
theorem split_at (S : List Int) (n m : Nat) (h : S.length = n + 1 + m) : ∃ S1 s S2, S = S1 ++ s :: S2 ∧ S1.length = n ∧ S2.length = m := by
  refine ⟨S.take n, rd S (n : Int), S.drop (n + 1), ?_, by rw [List.length_take]; omega, by rw [List.length_drop]; omega⟩
  rw [← drop_cons S n (by omega), List.take_append_drop]
theorem split_last (S : List Int) (n : Nat) (h : S.length = n + 1) : ∃ A e, S = A ++ [e] ∧ A.length = n := by
  obtain ⟨S1, s, S2, e, h1, h2⟩ := split_at S n 0 (by omega)
  have : S2 = [] := List.eq_nil_of_length_eq_zero h2
  subst this
  exact ⟨S1, s, e, h1⟩
section
variable (kd b : Int) (X : List S32)
theorem odo (C1 S1 P : List Int) (c s d : Int) (ki : Nat) (hP : P.length = C1.length) (hS1 : S1.length = C1.length) (hd : 0 ≤ d ∧ d + 1 < c) (hc : c ≤ 3) (h3 : C1.length ≤ 3) {r : Bool} (n : Nat) :
    ∀ (C2a C2b S2a S2b : List Int) (st : Int), C2a.length = n → S2a.length = n → S2b.length = C2b.length → C2b.length + n ≤ 3 → (∀ x ∈ C2a, 1 ≤ x ∧ x ≤ 3) → (∀ x ∈ S2a, -20 ≤ x ∧ x ≤ 20) → -(1000 - 40 * (n : Int)) ≤ st → st ≤ 1000 - 40 * (n : Int) →
      Ev (fun k => laws_FnNested.j4 k X (P ++ d :: zs (C2a ++ C2b)) (ki : Int) (P.length : Int) (st - off S2a (mxs C2a)) kd b (C1 ++ c :: (C2a ++ C2b)) (S1 ++ s :: (S2a ++ S2b))) r →
      Ev (fun k => laws_FnNested.l2 k X (P ++ d :: (mxs C2a ++ zs C2b)) (ki : Int) ((P.length + n : Nat) : Int) st kd b (C1 ++ c :: (C2a ++ C2b)) (S1 ++ s :: (S2a ++ S2b))) r := by
  induction n with
  | zero =>
    intro C2a C2b S2a S2b st h1 h2 h4 h5 hC hS b1 b2 h
    have e1 : C2a = [] := List.eq_nil_of_length_eq_zero h1
    have e2 : S2a = [] := List.eq_nil_of_length_eq_zero h2
    subst e1; subst e2
    have e3 : off [] (mxs []) = 0 := rfl
    rw [e3, Int.sub_zero] at h
    refine Ev.step (fun k => ?_) h
    have r1 : rd (P ++ d :: (mxs [] ++ zs C2b)) ((P.length + 0 : Nat) : Int) = d := rd_app P d _ _ rfl
    have r2 : rd (C1 ++ c :: ([] ++ C2b)) ((P.length + 0 : Nat) : Int) = c := rd_app C1 c _ _ (by omega)
    rw [laws_FnNested.l2, if_pos (by omega), if_pos (by omega), if_pos (by simp [mxs, zs]; omega), if_pos (by simp; omega), r1, r2, wid (x := c - 1) (by omega) (by omega), if_neg (by omega)]
    rfl
  | succ n ih =>
    intro C2a C2b S2a S2b st h1 h2 h4 h5 hC hS b1 b2 h
    obtain ⟨A, e, rfl, hA⟩ := split_last C2a n h1
    obtain ⟨B, t, rfl, hB⟩ := split_last S2a n h2
    have he := hC e (by simp)
    have ht := hS t (by simp)
    have hm : mxs (A ++ [e]) = mxs A ++ [e - 1] := by simp [mxs]
    have hml : (mxs A).length = n := by simp [mxs, hA]
    have hoff : off (B ++ [t]) (mxs (A ++ [e])) = off B (mxs A) + (e - 1) * t := by
      rw [hm, off_app B (mxs A) t (e - 1) [] [] (by omega)]
      show off B (mxs A) + (e - 1) * t + 0 = _
      omega
    have hz : zs (A ++ [e] ++ C2b) = zs (A ++ e :: C2b) := by rw [← List.append_cons]
    have het : -40 ≤ (e - 1) * t ∧ (e - 1) * t ≤ 40 := by
      have : e = 1 ∨ e = 2 ∨ e = 3 := by omega
      rcases this with rfl | rfl | rfl <;> omega
    rw [← List.append_cons A e C2b, ← List.append_cons B t S2b, hoff] at h
    have hx := ih A (e :: C2b) B (t :: S2b) (st - (e - 1) * t) hA hB (by simp [h4]) (by simp; omega) (fun x hx => hC x (List.mem_append_left _ hx)) (fun x hx => hS x (List.mem_append_left _ hx)) (by omega) (by omega) (by
      rw [show st - (e - 1) * t - off B (mxs A) = st - (off B (mxs A) + (e - 1) * t) by omega]; exact h)
    rw [← List.append_cons A e C2b, ← List.append_cons B t S2b]
    refine Ev.step (fun k => ?_) hx
    have n1 : P ++ d :: (mxs (A ++ [e]) ++ zs C2b) = (P ++ d :: mxs A) ++ (e - 1) :: zs C2b := by rw [hm]; simp
    have n2 : C1 ++ c :: (A ++ e :: C2b) = (C1 ++ c :: A) ++ e :: C2b := by simp
    have n3 : S1 ++ s :: (B ++ t :: S2b) = (S1 ++ s :: B) ++ t :: S2b := by simp
    have n4 : P ++ d :: (mxs A ++ zs (e :: C2b)) = (P ++ d :: mxs A) ++ 0 :: zs C2b := by simp [zs]
    have r1 : rd ((P ++ d :: mxs A) ++ (e - 1) :: zs C2b) ((P.length + (n + 1) : Nat) : Int) = e - 1 := rd_app _ _ _ _ (by simp [hml])
    have r2 : rd ((C1 ++ c :: A) ++ e :: C2b) ((P.length + (n + 1) : Nat) : Int) = e := rd_app _ _ _ _ (by simp [hA]; omega)
    have r3 : rd ((S1 ++ s :: B) ++ t :: S2b) ((P.length + (n + 1) : Nat) : Int) = t := rd_app _ _ _ _ (by simp [hB]; omega)
    have hx1 : ((P.length + (n + 1) : Nat) : Int) - 1 = ((P.length + n : Nat) : Int) := by omega
    rw [n1, n4, n2, n3, laws_FnNested.l2, if_pos (by omega), if_pos (by omega), if_pos (by simp [hml]; omega), if_pos (by simp [hA]; omega), r1, r2, r3, wid (x := e - 1) (by omega) (by omega), if_pos rfl, if_pos (by simp [hB]; omega), Int.toNat_natCast, set_app 0 _ _ _ _ (by simp [hml]), wid (x := ((P.length + (n + 1) : Nat) : Int) - 1) (by omega) (by omega), wid (x := (e - 1) * t) (by omega) (by omega), wid (x := st - (e - 1) * t) (by omega) (by omega), hx1]
end
theorem off_bd : ∀ (S C : List Int), (∀ x ∈ C, 1 ≤ x ∧ x ≤ 3) → (∀ x ∈ S, -20 ≤ x ∧ x ≤ 20) → -(40 * (C.length : Int)) ≤ off S (mxs C) ∧ off S (mxs C) ≤ 40 * (C.length : Int)
  | [], C, _, _ => by
    have : off [] (mxs C) = 0 := by cases C <;> rfl
    rw [this]; omega
  | s :: S, [], _, _ => by
    have : off (s :: S) (mxs []) = 0 := rfl
    rw [this]; simp
  | s :: S, c :: C, hC, hS => by
    have hc := hC c (List.mem_cons_self ..)
    have hs := hS s (List.mem_cons_self ..)
    have ih := off_bd S C (fun x hx => hC x (List.mem_cons_of_mem _ hx)) (fun x hx => hS x (List.mem_cons_of_mem _ hx))
    have e : off (s :: S) (mxs (c :: C)) = (c - 1) * s + off S (mxs C) := rfl
    have h : -40 ≤ (c - 1) * s ∧ (c - 1) * s ≤ 40 := by
      have : c = 1 ∨ c = 2 ∨ c = 3 := by omega
      rcases this with rfl | rfl | rfl <;> omega
    rw [e, List.length_cons]
    omega
theorem out_at (kd b : Int) (C S : List Int) (pre : List (List Int)) (N : List Int) (L : List (List Int)) (h : Dg C = pre ++ N :: L) (i : Nat) (hi : i = pre.length) : rd_T32 (nestOut kd b C S) (i : Int) = ⟨kd, (b + off S N) % 64⟩ := by
  subst hi
  rw [rdA]
  unfold nestOut
  rw [h, List.map_append, List.map_cons, List.getD_eq_getElem?_getD, List.getElem?_append_right (by simp)]
  simp
theorem nl_w (A A' st s d : Int) (a0 : 0 ≤ A) (a1 : A < 64) (a2 : 0 ≤ A') (a3 : A' < 64) (t0 : -1000 ≤ st) (t1 : st ≤ 1000) (s0 : -20 ≤ s) (s1 : s ≤ 20) (d0 : 0 ≤ d) (d1 : d ≤ 3) :
    wrap64 (A' - A) = A' - A ∧ wrap64 (st + s) = st + s ∧ wrap64 (A' - A - (st + s)) = A' - A - (st + s) ∧ wrap64 (d + 1) = d + 1 :=
  ⟨wid (by omega) (by omega), wid (by omega) (by omega), wid (by omega) (by omega), wid (by omega) (by omega)⟩
theorem nl_j4 (kd b : Int) (X : List S32) (C S now : List Int) (p q : Nat) (st A A' d s : Int) {r : Bool} (hX : X.length ≤ 1000) (hp : p + 1 < X.length) (o2 : rd_T32 X ((p + 1 : Nat) : Int) = ⟨kd, A'⟩) (o1 : rd_T32 X (p : Int) = ⟨kd, A⟩)
    (a0 : 0 ≤ A) (a1 : A < 64) (a2 : 0 ≤ A') (a3 : A' < 64) (t0 : -1000 ≤ st) (t1 : st ≤ 1000) (s0 : -20 ≤ s) (s1 : s ≤ 20) (hdv : Int.tmod (A' - A - (st + s)) 64 = 0) (q0 : q < now.length) (q1 : q < S.length) (r1 : rd now (q : Int) = d) (r2 : rd S (q : Int) = s) (d0 : 0 ≤ d) (d1 : d ≤ 3)
    (hx : Ev (fun k => laws_FnNested.l1 k X (now.set q (d + 1)) ((p + 1 + 1 : Nat) : Int) kd b C S) r) : Ev (fun k => laws_FnNested.j4 k X now ((p + 1 : Nat) : Int) (q : Int) st kd b C S) r := by
  have HD := Aside0.mk hdv
  clear hdv
  refine Ev.step (fun k => ?_) hx
  have e1 : ¬ (q : Int) < 0 := by omega
  have e2 : (0 : Int) ≤ (q : Int) := by omega
  have e3 : (q : Int) < (now.length : Int) := by omega
  have e4 : (q : Int) < (S.length : Int) := by omega
  have e5 : (0 : Int) ≤ ((p + 1 : Nat) : Int) := by omega
  have e6 : ((p + 1 : Nat) : Int) < (X.length : Int) := by omega
  have e7 : (0 : Int) ≤ (p : Int) := by omega
  have e8 : (p : Int) < (X.length : Int) := by omega
  have e9 : ¬ A' < 0 := by omega
  have e10 : ¬ A' ≥ 64 := by omega
  have w1 : wrap64 (((p + 1 : Nat) : Int) - 1) = (p : Int) := by rw [wid (by omega) (by omega)]; omega
  have w2 : wrap64 (((p + 1 : Nat) : Int) + 1) = ((p + 1 + 1 : Nat) : Int) := by rw [wid (by omega) (by omega)]; omega
  obtain ⟨w3, w4, w5, w6⟩ := nl_w A A' st s d a0 a1 a2 a3 t0 t1 s0 s1 d0 d1
  clear hx hX hp a0 a1 a2 a3 t0 t1 s0 s1 q0 q1 d0 d1
  rw [laws_FnNested.j4, if_neg e1, if_pos e2, if_pos e3, if_pos e4, if_pos e5, if_pos e6, o2, if_pos rfl, w1, if_pos e7, if_pos e8, o1, r1, r2]
  dsimp only
  rw [w3, w4, w5, if_pos HD.out, if_neg e9, if_neg e10, w2, w6, Int.toNat_natCast]
theorem dv_aux (b x1 x2 x3 s : Int) : (64 : Int) ∣ (b + (x1 + (x3 + s) + 0)) % 64 - (b + (x1 + x3 + x2)) % 64 - (0 - x2 + s) := by omega
theorem nl_l1 (kd b : Int) (C S : List Int) (hC : C.length ≤ 3) (hS : S.length = C.length) (hC2 : ∀ x ∈ C, 1 ≤ x ∧ x ≤ 3) (hS2 : ∀ x ∈ S, -20 ≤ x ∧ x ≤ 20) (hlen : (nestOut kd b C S).length ≤ 1000) :
    ∀ (L : List (List Int)) (pre : List (List Int)) (N : List Int), Dg C = pre ++ N :: L → Sq C N L → Ev (fun k => laws_FnNested.l1 k (nestOut kd b C S) N ((pre.length + 1 : Nat) : Int) kd b C S) true := by
  intro L
  induction L with
  | nil =>
    intro pre N hD hs
    have hl : (nestOut kd b C S).length = pre.length + 1 := by unfold nestOut; rw [hD]; simp
    refine ev_ret (fun k => ?_)
    have hz : rd_T32 (nestOut kd b C S) 0 = ⟨kd, (b + off S ((Dg C).getD 0 [])) % 64⟩ := by
      cases pre with
      | nil =>
        have := out_at kd b C S [] N [] hD 0 rfl
        rw [hD]; exact this
      | cons M pre =>
        have := out_at kd b C S [] M (pre ++ [N]) hD 0 rfl
        rw [hD]; exact this
    rw [laws_FnNested.l1, if_neg (by omega), if_pos (by omega), show (0 : Int) = ((0 : Nat) : Int) from rfl] 
    rw [show ((0 : Nat) : Int) = 0 from rfl, hz]
    simp
  | cons N' L ih =>
    intro pre N hD hs
    obtain ⟨⟨C1, c, C2, P, d, e1, e2, e3, e4, e5, e6⟩, hs2⟩ := hs
    have hl : (nestOut kd b C S).length = pre.length + 2 + L.length := by unfold nestOut; rw [hD]; simp; omega
    have hD2 : Dg C = (pre ++ [N]) ++ N' :: L := by rw [hD]; simp
    have hx := ih (pre ++ [N]) N' hD2 hs2
    rw [List.length_append, List.length_singleton] at hx
    have o1 := out_at kd b C S pre N (N' :: L) hD pre.length rfl
    have o2 := out_at kd b C S (pre ++ [N]) N' L hD2 (pre.length + 1) (by simp)
    obtain ⟨S1, s, S2, f1, f2, f3⟩ := split_at S C1.length C2.length (by rw [hS, e1]; simp; omega)
    have hcl : C1.length + 1 + C2.length ≤ 3 := by have := hC; rw [e1] at this; simp at this; omega
    have hc3 := hC2 c (by rw [e1]; simp)
    have hs3 := hS2 s (by rw [f1]; simp)
    have hC22 : ∀ x ∈ C2, 1 ≤ x ∧ x ≤ 3 := fun x hx => hC2 x (by rw [e1]; simp [hx])
    have hS22 : ∀ x ∈ S2, -20 ≤ x ∧ x ≤ 20 := fun x hx => hS2 x (by rw [f1]; simp [hx])
    have hob := off_bd S2 C2 hC22 hS22
    have v1 : off S N = off S1 P + d * s + off S2 (mxs C2) := by rw [f1, e3]; exact off_app S1 P s d S2 _ (by omega)
    have v2 : off S N' = off S1 P + (d + 1) * s + 0 := by rw [f1, e4, off_app S1 P s (d + 1) S2 _ (by omega), off_zs]
    have v3 : (d + 1) * s = d * s + s := by rw [Int.add_mul, Int.one_mul]
    have hj : Ev (fun k => laws_FnNested.j4 k (nestOut kd b C S) (P ++ d :: zs (C2 ++ [])) ((pre.length + 1 : Nat) : Int) (P.length : Int) (0 - off S2 (mxs C2)) kd b (C1 ++ c :: (C2 ++ [])) (S1 ++ s :: (S2 ++ []))) true := by
      rw [List.append_nil, List.append_nil, ← e1, ← f1]
      have r1 : rd (P ++ d :: zs C2) (P.length : Int) = d := rd_app P d _ _ rfl
      have r2 : rd S (P.length : Int) = s := by rw [f1]; exact rd_app S1 s _ _ (by rw [e2, f2])
      have m1 := Int.emod_nonneg (b + off S N) (show (64 : Int) ≠ 0 by decide)
      have m2 := Int.emod_lt_of_pos (b + off S N) (show (0 : Int) < 64 by decide)
      have m3 := Int.emod_nonneg (b + off S N') (show (64 : Int) ≠ 0 by decide)
      have m4 := Int.emod_lt_of_pos (b + off S N') (show (0 : Int) < 64 by decide)
      have hdv : Int.tmod ((b + off S N') % 64 - (b + off S N) % 64 - (0 - off S2 (mxs C2) + s)) 64 = 0 := by
        apply Int.tmod_eq_zero_of_dvd
        rw [v1, v2, v3]
        exact dv_aux _ _ _ _ _
      have q1 : P.length < S.length := by rw [hS, e1]; simp; omega
      have q0 : P.length < (P ++ d :: zs C2).length := by simp
      have hsx : (P ++ d :: zs C2).set P.length (d + 1) = N' := by rw [set_app (d + 1) P d _ _ rfl, ← e4]
      have hpl : pre.length + 1 < (nestOut kd b C S).length := by rw [hl]; omega
      have b3 : -1000 ≤ 0 - off S2 (mxs C2) := by omega
      have b4 : 0 - off S2 (mxs C2) ≤ 1000 := by omega
      have b5 : d ≤ 3 := by omega
      refine nl_j4 kd b (nestOut kd b C S) C S (P ++ d :: zs C2) pre.length P.length _ _ _ d s hlen hpl o2 o1 m1 m2 m3 m4 b3 b4 hs3.1 hs3.2 hdv q0 q1 r1 r2 e5 b5 ?_
      rw [hsx]
      exact hx
    have ho := odo kd b (nestOut kd b C S) C1 S1 P c s d (pre.length + 1) e2 f2 ⟨e5, e6⟩ (by omega) (by omega) C2.length C2 [] S2 [] 0 rfl f3 rfl (by simp; omega) hC22 hS22 (by omega) (by omega) hj
    have en : P ++ d :: (mxs C2 ++ zs []) = N := by rw [e3]; simp [zs]
    rw [en, List.append_nil, List.append_nil, ← e1, ← f1] at ho
    refine Ev.step (fun k => ?_) ho
    have hNl : N.length = P.length + 1 + C2.length := by rw [e3]; simp [mxs]; omega
    rw [laws_FnNested.l1, if_pos (by omega), wid (x := (N.length : Int) - 1) (by omega) (by omega), hNl, show ((P.length + 1 + C2.length : Nat) : Int) - 1 = ((P.length + C2.length : Nat) : Int) by omega]

def prd : List Int → Int
  | [] => 1
  | c :: C => c * prd C
theorem dg_len : ∀ (C : List Int), (∀ x ∈ C, 1 ≤ x ∧ x ≤ 3) → ((Dg C).length : Int) = prd C
  | [], _ => rfl
  | c :: C, h => by
    have ih := dg_len C (fun x hx => h x (List.mem_cons_of_mem _ hx))
    have hc := h c (List.mem_cons_self ..)
    rw [prd, ← ih, Dg, List.length_flatMap]
    simp only [List.length_map]
    have : ∀ (l : List Nat) (n : Nat), (l.map (fun _ => n)).sum = l.length * n := by
      intro l n
      induction l with
      | nil => simp
      | cons a l ih2 => rw [List.map_cons, List.sum_cons, ih2, List.length_cons, Nat.succ_mul]; omega
    rw [this, List.length_range]
    have e : (c.toNat : Int) = c := by omega
    rw [Int.natCast_mul, e]
theorem prd_bd : ∀ (C : List Int), (∀ x ∈ C, 1 ≤ x ∧ x ≤ 3) → C.length ≤ 3 → 1 ≤ prd C ∧ prd C ≤ 27
  | [], _, _ => by simp [prd]
  | [c], h, _ => by
    have := h c (by simp)
    simp only [prd]; omega
  | [c, d], h, _ => by
    have h1 := h c (by simp)
    have h2 := h d (by simp)
    simp only [prd]
    have : d = 1 ∨ d = 2 ∨ d = 3 := by omega
    rcases this with rfl | rfl | rfl <;> omega
  | [c, d, e], h, _ => by
    have h1 := h c (by simp)
    have h2 := h d (by simp)
    have h3 := h e (by simp)
    simp only [prd]
    have q1 : d = 1 ∨ d = 2 ∨ d = 3 := by omega
    have q2 : e = 1 ∨ e = 2 ∨ e = 3 := by omega
    rcases q1 with rfl | rfl | rfl <;> rcases q2 with rfl | rfl | rfl <;> omega
  | _ :: _ :: _ :: _ :: _, _, h => by simp at h
theorem nl_l0 (kd b : Int) (C S : List Int) (X : List S32) (hC : C.length ≤ 3) (hC2 : ∀ x ∈ C, 1 ≤ x ∧ x ≤ 3) (h : Ev (fun k => laws_FnNested.l0 k X true (prd C) (C.length : Int) kd b C S) true) (d : Nat) :
    ∀ (i : Nat) (acc : Int), C.length - i = d → i ≤ C.length → 1 ≤ acc → acc ≤ 3 ^ i → acc * prd (C.drop i) = prd C → Ev (fun k => laws_FnNested.l0 k X true acc (i : Int) kd b C S) true := by
  induction d with
  | zero =>
    intro i acc hd hi h0 h1 h2
    have e : i = C.length := by omega
    subst e
    rw [List.drop_length] at h2
    have : acc = prd C := by rw [← h2]; simp [prd]
    rw [this]; exact h
  | succ d ih =>
    intro i acc hd hi h0 h1 h2
    rw [drop_cons C i (by omega), prd, ← Int.mul_assoc] at h2
    have hc := hC2 _ (rd_mem C i (by omega))
    have h27 : acc ≤ 9 := by
      have : i = 0 ∨ i = 1 ∨ i = 2 := by omega
      rcases this with rfl | rfl | rfl <;> simpa using Int.le_trans h1 (by simp)
    have hm : 1 ≤ acc * rd C (i : Int) ∧ acc * rd C (i : Int) ≤ acc * 3 := by
      generalize rd C (i : Int) = c at hc
      have : c = 1 ∨ c = 2 ∨ c = 3 := by omega
      rcases this with rfl | rfl | rfl <;> omega
    have hx := ih (i + 1) (acc * rd C (i : Int)) (by omega) (by omega) hm.1 (by rw [Int.pow_succ]; exact Int.le_trans hm.2 (Int.mul_le_mul_of_nonneg_right h1 (by omega))) h2
    refine Ev.step (fun k => ?_) hx
    rw [laws_FnNested.l0, if_pos (by omega), if_pos (by omega), wid (x := acc * rd C (i : Int)) (by omega) (by omega), wid (x := (i : Int) + 1) (by omega) (by omega), show ((i + 1 : Nat) : Int) = (i : Int) + 1 by omega]
theorem nested_law (kd b : Int) (C S : List Int) (b0 : 0 ≤ b) (b1 : b ≤ 63) (hC : C.length ≤ 3) (hS : S.length = C.length) (hC2 : ∀ x ∈ C, 1 ≤ x ∧ x ≤ 3) (hS2 : ∀ x ∈ S, -20 ≤ x ∧ x ≤ 20) : Ev (fun k => laws_FnNested.l0 k (nestOut kd b C S) true 1 0 kd b C S) true := by
  obtain ⟨L, eD, hs⟩ := dg_seq C hC2
  have hl : ((nestOut kd b C S).length : Int) = prd C := by unfold nestOut; rw [List.length_map]; exact dg_len C hC2
  have hp := prd_bd C hC2 hC
  have hf := out_at kd b C S [] (zs C) L eD 0 rfl
  rw [off_zs, Int.add_zero, show ((0 : Nat) : Int) = 0 from rfl] at hf
  have hb : b % 64 = b := Int.emod_eq_of_lt b0 (by omega)
  have h1 := nl_l1 kd b C S hC hS hC2 hS2 (by omega) L [] (zs C) eD hs
  have hz : List.replicate C.length (0 : Int) = zs C := by unfold zs; rw [List.map_const']
  refine nl_l0 kd b C S _ hC hC2 ?_ C.length 0 1 (by omega) (by omega) (by omega) (by simp) (by rw [List.drop_zero, Int.one_mul])
  refine Ev.step (fun k => ?_) (Ev.step (f := fun k => laws_FnNested.l1 k (nestOut kd b C S) (zs C) 1 kd b C S) (g := fun k => laws_FnNested.j1 k (nestOut kd b C S) false kd b C S) (fun k => ?_) h1)
  · rw [laws_FnNested.l0, if_neg (by omega), if_pos rfl, if_pos hl, if_pos (by omega), hf]
    show laws_FnNested.j1 k _ ((b % 64) != b) kd b C S = _
    rw [hb, bne_self_eq_false]
  · rw [laws_FnNested.j1, if_neg (by decide), if_pos (by omega), Int.toNat_natCast, if_pos (by omega), hz]
theorem FnNested : laws_FnNested.Pure := by
  intro l0 l1 _ _ u0 _ _ u1
  refine Ev.rounds (r := true) ?_
  unfold laws_FnNested.f
  simp only [r8Long_is, Option.bind_some]
  by_cases hb : r8longOf l0 l1 = true
  · simp only [if_pos hb]; exact Ev.now _
  simp only [if_neg hb]
  obtain ⟨kd, b, C, S, en, k0, k1, b0, b1, hC, hS, hC2, hS2⟩ := r8nest l0 u0
  refine Ev.bind en ?_
  refine Ev.bind (impl_nest kd b C S k0 k1 b0 b1 hC hS hC2 hS2) ?_
  exact nested_law kd b C S b0 b1 hC hS hC2 hS2

end Go.Proofs.Ytbdedpodbnhkfaa.Pure
