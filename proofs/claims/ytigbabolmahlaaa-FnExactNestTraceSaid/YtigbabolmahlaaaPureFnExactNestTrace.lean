/- The program's NestTrace returns what the reference's returns, for all loops. Conditions: those of the row alone. -/
import Derived.Test.YtigbabolmahlaaaPFnExactNestTracey
namespace Go.Proofs.Ytigbabolmahlaaa.Pure
open Go.RowKit Go.Proofs.Ytigbabolmahlaaa.PFnExactNestTrace Go.Proofs.YtigbabolmahlaaaW.PrintWords Go.Proofs.YtigbabolmahlaaaW.PrintLast Go.Proofs.YtigbabolmahlaaaW.PrintMore
set_option linter.unusedVariables false
set_option linter.unusedSimpArgs false

theorem wid {x : Int} (h1 : -9223372036854775808 ≤ x) (h2 : x < 9223372036854775808) : wrap64 x = x := by unfold wrap64; omega
theorem i64_bd {x : Int} (h : (Lit.int .i64 x).wf = true) : -9223372036854775808 ≤ x ∧ x ≤ 9223372036854775807 := by
  simp only [Lit.wf, IntKind.min, IntKind.max, IntKind.signed, IntKind.bits, Bool.and_eq_true, decide_eq_true_eq, if_true] at h
  omega
/-- A loop's step, its answer known at once. -/
theorem ev_ret {α : Type} {g : Nat → Option α} {r : α} (h : ∀ k, g (k + 1) = some r) : Ev g r := Ev.step (f := fun _ => some r) h (Ev.now r)
theorem ev_all {α : Type} {g : Nat → Option α} {r : α} (h : ∀ k, g k = some r) : Ev g r := ⟨0, fun k _ => h k⟩

theorem getD_set (xs : List Int) (i j : Nat) (v : Int) (hi : i < xs.length) : (xs.set i v).getD j 0 = if i = j then v else xs.getD j 0 := by
  rw [List.getD_eq_getElem?_getD, List.getElem?_set]
  by_cases e : i = j
  · subst e; rw [if_pos rfl, if_pos hi, if_pos rfl]; rfl
  · rw [if_neg e, if_neg e, List.getD_eq_getElem?_getD]
theorem ext_getD {xs ys : List Int} (h : xs.length = ys.length) (he : ∀ j, j < xs.length → xs.getD j 0 = ys.getD j 0) : xs = ys := by
  apply List.ext_getElem h
  intro j h1 h2
  have := he j h1
  rwa [List.getD_eq_getElem?_getD, List.getD_eq_getElem?_getD, List.getElem?_eq_getElem h1, List.getElem?_eq_getElem h2] at this
theorem rd_nat (xs : List Int) (i : Nat) : rd xs (i : Int) = xs.getD i 0 := by unfold rd; rw [Int.toNat_natCast]
theorem rd_mem (xs : List Int) (i : Nat) (h : i < xs.length) : rd xs (i : Int) ∈ xs := by
  rw [rd_nat, List.getD_eq_getElem?_getD, List.getElem?_eq_getElem h]
  exact List.getElem_mem _
theorem take_snoc (xs : List Int) (i : Nat) (h : i < xs.length) : xs.take (i + 1) = xs.take i ++ [rd xs (i : Int)] := by
  rw [List.take_succ_eq_append_getElem h, rd_nat, List.getD_eq_getElem?_getD, List.getElem?_eq_getElem h]
  rfl
theorem drop_cons (xs : List Int) (i : Nat) (h : i < xs.length) : xs.drop i = rd xs (i : Int) :: xs.drop (i + 1) := by
  rw [List.drop_eq_getElem_cons h, rd_nat, List.getD_eq_getElem?_getD, List.getElem?_eq_getElem h]
  rfl

theorem gset {α : Type} (d : α) (xs : List α) (i j : Nat) (v : α) (hi : i < xs.length) : (xs.set i v).getD j d = if i = j then v else xs.getD j d := by
  rw [List.getD_eq_getElem?_getD, List.getElem?_set]
  by_cases e : i = j
  · subst e; rw [if_pos rfl, if_pos hi, if_pos rfl]; rfl
  · rw [if_neg e, if_neg e, List.getD_eq_getElem?_getD]
theorem gext {α : Type} (d : α) {xs ys : List α} (h : xs.length = ys.length) (he : ∀ j, j < xs.length → xs.getD j d = ys.getD j d) : xs = ys := by
  apply List.ext_getElem h
  intro j h1 h2
  have := he j h1
  rwa [List.getD_eq_getElem?_getD, List.getD_eq_getElem?_getD, List.getElem?_eq_getElem h1, List.getElem?_eq_getElem h2] at this
theorem gmem {α : Type} (d : α) (xs : List α) (i : Nat) (h : i < xs.length) : xs.getD i d ∈ xs := by
  rw [List.getD_eq_getElem?_getD, List.getElem?_eq_getElem h]
  exact List.getElem_mem _
theorem gdrop {α : Type} (d : α) (xs : List α) (i : Nat) (h : i < xs.length) : xs.drop i = xs.getD i d :: xs.drop (i + 1) := by
  rw [List.drop_eq_getElem_cons h, List.getD_eq_getElem?_getD, List.getElem?_eq_getElem h]
  rfl
theorem gmap {α β : Type} (d : α) (e : β) (f : α → β) (xs : List α) (i : Nat) (h : i < xs.length) : (xs.map f).getD i e = f (xs.getD i d) := by
  rw [List.getD_eq_getElem?_getD, List.getD_eq_getElem?_getD, List.getElem?_map, List.getElem?_eq_getElem h]
  rfl

/-! accesses -/
theorem rdA (xs : List S65) (i : Nat) : rd_T65 xs (i : Int) = xs.getD i z65 := by unfold rd_T65; rw [Int.toNat_natCast]

/-! what NestTrace makes, at whatever loops -/
def stepP (P : List Int) (c s : Int) : List Int := P.flatMap (fun p => (List.range c.toNat).map (fun (k : Nat) => p + (k : Int) * s))
theorem stepP_len (c s : Int) : ∀ (P : List Int), (stepP P c s).length = P.length * c.toNat
  | [] => by simp [stepP]
  | p :: P => by
    have := stepP_len c s P
    unfold stepP at this ⊢
    rw [List.flatMap_cons, List.length_append, this, List.length_map, List.length_range, List.length_cons, Nat.succ_mul]
    omega
theorem tm64 (p : Int) : Int.tmod (Int.tmod p 64 + 64) 64 = p % 64 := by
  have h1 := Int.mul_tdiv_add_tmod p 64
  have h2 := Int.tmod_lt_of_pos p (show (0 : Int) < 64 by omega)
  have h3 : -64 < Int.tmod p 64 := Int.lt_tmod_of_pos p (by omega)
  rw [Int.tmod_eq_emod_of_nonneg (by omega)]
  omega
theorem nestAt_add (l2 l3 : List Int) (x : Int) : ∀ (i : Nat) (r a : Int), nestAt l2 l3 i r (a + x) = nestAt l2 l3 i r a + x
  | 0, _, _ => rfl
  | i + 1, r, a => by
    rw [nestAt, nestAt, show a + x + Int.tmod r (rd l2 (i : Int)) * rd l3 (i : Int) = (a + Int.tmod r (rd l2 (i : Int)) * rd l3 (i : Int)) + x by omega]
    exact nestAt_add l2 l3 x i _ _
theorem flat_range (g : Nat → Int) (c : Nat) : ∀ (n : Nat), (List.range n).flatMap (fun q => (List.range c).map (fun t => g (q * c + t))) = (List.range (n * c)).map g
  | 0 => by simp
  | n + 1 => by
    rw [List.range_succ, List.flatMap_append, flat_range g c n, Nat.succ_mul, List.range_add, List.map_append, List.flatMap_cons, List.flatMap_nil, List.append_nil, List.map_map]
    rfl
theorem nestAt_step (l2 l3 : List Int) (b : Int) (i q c t : Nat) (s : Int) (hc : rd l2 (i : Int) = (c : Int)) (hs : rd l3 (i : Int) = s) (ht : t < c) :
    nestAt l2 l3 (i + 1) ((q * c + t : Nat) : Int) b = nestAt l2 l3 i (q : Int) b + (t : Int) * s := by
  rw [nestAt, hc, hs, nestAt_add]
  have h1 : Int.tmod ((q * c + t : Nat) : Int) (c : Int) = (t : Int) := by
    rw [← Int.ofNat_tmod, Nat.add_comm, Nat.add_mul_mod_self_right, Nat.mod_eq_of_lt ht]
  have h2 : Int.tdiv ((q * c + t : Nat) : Int) (c : Int) = (q : Int) := by
    rw [← Int.ofNat_tdiv, Nat.add_comm, Nat.add_mul_div_right _ _ (by omega), Nat.div_eq_of_lt ht, Nat.zero_add]
  rw [h1, h2]
theorem places_step (l2 l3 : List Int) (b : Int) (i c n : Nat) (s : Int) (hc : rd l2 (i : Int) = (c : Int)) (hs : rd l3 (i : Int) = s) :
    stepP ((List.range n).map (fun (k : Nat) => nestAt l2 l3 i (k : Int) b)) (c : Int) s = (List.range (n * c)).map (fun (k : Nat) => nestAt l2 l3 (i + 1) (k : Int) b) := by
  rw [← flat_range (fun (k : Nat) => nestAt l2 l3 (i + 1) (k : Int) b) c n]
  unfold stepP
  rw [List.flatMap_map, Int.toNat_natCast]
  congr 1
  funext q
  apply List.map_congr_left
  intro t ht
  rw [List.mem_range] at ht
  exact (nestAt_step l2 l3 b i q c t s hc hs ht).symm
theorem in_bd (a b x : Int) (h : inR a b x = true) : a ≤ x ∧ x ≤ b := by unfold inR at h; simpa using h
theorem nestLoop_61 (l2 l3 : List Int) : ∀ (d i : Nat), (∀ j, i ≤ j → j < i + d → inR 1 60 (rd l2 (j : Int)) = true ∧ inR (-1000) 1000 (rd l3 (j : Int)) = true) → nestLoop l2 l3 d i 61 = (61, true)
  | 0, _, _ => rfl
  | d + 1, i, h => by
    obtain ⟨h1, h2⟩ := h i (Nat.le_refl _) (by omega)
    have hb := in_bd _ _ _ h1
    rw [nestLoop, if_pos h1, if_pos h2, if_neg (by generalize rd l2 (i : Int) = x at hb; omega)]
    exact nestLoop_61 l2 l3 d (i + 1) (fun j hj hj2 => h j (by omega) (by omega))
section
variable (kd b : Int) (CC SS : List Int)
theorem gnest_l2 (i : Nat) (s : Int) (hi : i < SS.length) (hs : rd SS (i : Int) = s) (hb : -1000 ≤ s ∧ s ≤ 1000) (c : Nat) (hc : c ≤ 60) (p : Int) (hp : -1000000 ≤ p ∧ p ≤ 1000000) (P : List Int) (n j : Nat) (hj : j < P.length) (hP : P.length ≤ 1000) {r : List S65 × Bool} (d : Nat) :
    ∀ (q : Nat) (acc : List Int), q + d = c → acc.length ≤ 100000 - 60 + q → Ev (fun k => impl_NestTrace.l1 k (i : Int) (c : Int) (acc ++ (List.range' q d).map (fun (t : Nat) => p + (t : Int) * s)) CC (n : Int) (i : Int) P (P.length : Int) ((j + 1 : Nat) : Int) kd b CC SS) r →
    Ev (fun k => impl_NestTrace.l2 k (i : Int) (c : Int) acc p CC (n : Int) (i : Int) P (P.length : Int) (j : Int) (c : Int) (q : Int) kd b CC SS) r := by
  induction d with
  | zero =>
    intro q acc hq ha h
    rw [List.range'_zero, List.map_nil, List.append_nil] at h
    refine Ev.step (fun k => ?_) h
    rw [impl_NestTrace.l2, if_neg (by omega), wid (x := (j : Int) + 1) (by omega) (by omega), show ((j + 1 : Nat) : Int) = (j : Int) + 1 by omega]
  | succ d ih =>
    intro q acc hq ha h
    rw [List.range'_succ, List.map_cons, List.append_cons] at h
    have hx := ih (q + 1) (acc ++ [p + (q : Int) * s]) (by omega) (by simp; omega) h
    have hqs : -60000 ≤ (q : Int) * s ∧ (q : Int) * s ≤ 60000 := by
      have h1 : (q : Int) * s ≤ (q : Int) * 1000 := Int.mul_le_mul_of_nonneg_left hb.2 (by omega)
      have h2 : (q : Int) * (-1000) ≤ (q : Int) * s := Int.mul_le_mul_of_nonneg_left hb.1 (by omega)
      omega
    refine Ev.step (fun k => ?_) hx
    rw [impl_NestTrace.l2, if_pos (by omega), if_pos (by omega), if_pos (by omega), if_pos (by omega), hs, wid (x := (q : Int) * s) (by omega) (by omega), wid (x := p + (q : Int) * s) (by omega) (by omega), wid (x := (q : Int) + 1) (by omega) (by omega), show ((q + 1 : Nat) : Int) = (q : Int) + 1 by omega]
theorem gnest_l1 (i : Nat) (s : Int) (hi : i < SS.length) (hi3 : i ≤ 3) (hs : rd SS (i : Int) = s) (hb : -1000 ≤ s ∧ s ≤ 1000) (c : Nat) (hc : c ≤ 60) (P : List Int) (hP : P.length ≤ 60) (hPb : ∀ p ∈ P, -1000000 ≤ p ∧ p ≤ 1000000) (n : Nat) {r : List S65 × Bool}
    (h : Ev (fun k => impl_NestTrace.l1 k (i : Int) (c : Int) (stepP P (c : Int) s) CC (n : Int) (i : Int) P (P.length : Int) (P.length : Int) kd b CC SS) r) (d : Nat) :
    ∀ (j : Nat), P.length - j = d → j ≤ P.length → Ev (fun k => impl_NestTrace.l1 k (i : Int) (c : Int) (stepP (P.take j) (c : Int) s) CC (n : Int) (i : Int) P (P.length : Int) (j : Int) kd b CC SS) r := by
  induction d with
  | zero =>
    intro j hd hj
    rw [List.take_of_length_le (by omega)]
    have e : j = P.length := by omega
    subst e
    exact h
  | succ d ih =>
    intro j hd hj
    have hx := ih (j + 1) (by omega) (by omega)
    have e1 : stepP (P.take (j + 1)) (c : Int) s = stepP (P.take j) (c : Int) s ++ (List.range' 0 c).map (fun (t : Nat) => rd P (j : Int) + (t : Int) * s) := by
      rw [take_snoc P j (by omega)]
      unfold stepP
      rw [List.flatMap_append, List.flatMap_cons, List.flatMap_nil, List.append_nil, Int.toNat_natCast, List.range_eq_range']
    rw [e1] at hx
    have hl := stepP_len (c : Int) s (P.take j)
    rw [List.length_take] at hl
    have hm : min j P.length * (c : Int).toNat ≤ 60 * 60 := Nat.mul_le_mul (by omega) (by omega)
    refine Ev.step (fun k => ?_) (gnest_l2 kd b CC SS i s hi hs hb c hc (rd P (j : Int)) (hPb _ (rd_mem P j (by omega))) P n j (by omega) (by omega) c 0 _ (by omega) (by omega) hx)
    rw [impl_NestTrace.l1, if_pos (by omega), if_pos (by omega), if_pos (by omega)]
    rfl
theorem gnest_l3 (Q : List Int) (hQ : Q.length ≤ 1000) (hb : ∀ p ∈ Q, -1000000 ≤ p ∧ p ≤ 1000000) (d : Nat) : ∀ (i : Nat) (acc : List S65), Q.length - i = d → i ≤ Q.length → acc.length ≤ i →
    Ev (fun k => impl_NestTrace.l3 k acc Q (Q.length : Int) (i : Int) kd b CC SS) (acc ++ (Q.drop i).map (fun p => (⟨kd, p % 64⟩ : S65)), true) := by
  induction d with
  | zero =>
    intro i acc hd hi ha
    rw [List.drop_eq_nil_of_le (by omega), List.map_nil, List.append_nil]
    exact ev_ret (fun k => by rw [impl_NestTrace.l3, if_neg (by omega)])
  | succ d ih =>
    intro i acc hd hi ha
    have hp := hb _ (rd_mem Q i (by omega))
    have hx := ih (i + 1) (acc ++ [(⟨kd, rd Q (i : Int) % 64⟩ : S65)]) (by omega) (by omega) (by simp; omega)
    rw [← List.append_cons] at hx
    rw [drop_cons Q i (by omega), List.map_cons]
    have h2 := Int.tmod_lt_of_pos (rd Q (i : Int)) (show (0 : Int) < 64 by omega)
    have h3 : -64 < Int.tmod (rd Q (i : Int)) 64 := Int.lt_tmod_of_pos _ (by omega)
    refine Ev.step (fun k => ?_) hx
    rw [impl_NestTrace.l3, if_pos (by omega), if_pos (by omega), if_pos (by omega), if_pos (by omega), wid (x := Int.tmod (rd Q (i : Int)) 64 + 64) (by omega) (by omega), tm64, wid (x := (i : Int) + 1) (by omega) (by omega), show ((i + 1 : Nat) : Int) = (i : Int) + 1 by omega]
theorem places_bd (l2 l3 : List Int) (h : ∀ j, j < l2.length → inR 1 60 (rd l2 (j : Int)) = true ∧ inR (-1000) 1000 (rd l3 (j : Int)) = true) :
    ∀ (i : Nat) (r a m : Int), i ≤ l2.length → 0 ≤ r → -m ≤ a → a ≤ m → -(m + 60000 * (i : Int)) ≤ nestAt l2 l3 i r a ∧ nestAt l2 l3 i r a ≤ m + 60000 * (i : Int)
  | 0, r, a, m, _, _, h1, h2 => by rw [nestAt]; omega
  | i + 1, r, a, m, hi, h0, h1, h2 => by
    obtain ⟨q1, q2⟩ := h i (by omega)
    have c1 := in_bd _ _ _ q1
    have c2 := in_bd _ _ _ q2
    have t1 := Int.tmod_nonneg (rd l2 (i : Int)) h0
    have t2 := Int.tmod_lt_of_pos r (show 0 < rd l2 (i : Int) by omega)
    have t3 := Int.tdiv_nonneg h0 (show 0 ≤ rd l2 (i : Int) by omega)
    have x1 : Int.tmod r (rd l2 (i : Int)) * rd l3 (i : Int) ≤ Int.tmod r (rd l2 (i : Int)) * 1000 := Int.mul_le_mul_of_nonneg_left c2.2 t1
    have x2 : Int.tmod r (rd l2 (i : Int)) * (-1000) ≤ Int.tmod r (rd l2 (i : Int)) * rd l3 (i : Int) := Int.mul_le_mul_of_nonneg_left c2.1 t1
    have := places_bd l2 l3 h i (Int.tdiv r (rd l2 (i : Int))) (a + Int.tmod r (rd l2 (i : Int)) * rd l3 (i : Int)) (m + 60000) (by omega) t3 (by omega) (by omega)
    rw [nestAt]
    omega
theorem gnest_l0 (hl : SS.length = CC.length) (h3 : CC.length ≤ 3) (b0 : 0 ≤ b ∧ b ≤ 63) (hin : ∀ j, j < CC.length → inR 1 60 (rd CC (j : Int)) = true ∧ inR (-1000) 1000 (rd SS (j : Int)) = true) (d : Nat) :
    ∀ (i n : Nat), CC.length - i = d → i ≤ CC.length → n ≤ 60 →
      Ev (fun k => impl_NestTrace.l0 k ((List.range n).map (fun (k : Nat) => nestAt CC SS i (k : Int) b)) CC (CC.length : Int) (i : Int) kd b CC SS)
        (if (nestLoop CC SS d i (n : Int)).1 ≤ 60 then (nestAcc kd b CC SS (nestLoop CC SS d i (n : Int)).1.toNat, true) else ([], false)) := by
  induction d with
  | zero =>
    intro i n hd hi hn
    have e : i = CC.length := by omega
    rw [nestLoop, if_pos (by show (n : Int) ≤ 60; omega), Int.toNat_natCast]
    have hb : ∀ p ∈ (List.range n).map (fun (k : Nat) => nestAt CC SS i (k : Int) b), -1000000 ≤ p ∧ p ≤ 1000000 := by
      intro p hp
      obtain ⟨k, hk, rfl⟩ := List.mem_map.1 hp
      have := places_bd CC SS hin i (k : Int) b 63 (by omega) (by omega) (by omega) (by omega)
      omega
    have hx := gnest_l3 kd b CC SS ((List.range n).map (fun (k : Nat) => nestAt CC SS i (k : Int) b)) (by simp; omega) hb _ 0 [] rfl (by omega) (by simp)
    have e4 : (((List.range n).map (fun (k : Nat) => nestAt CC SS i (k : Int) b)).drop 0).map (fun p => (⟨kd, p % 64⟩ : S65)) = nestAcc kd b CC SS n := by
      rw [List.drop_zero, List.map_map]
      unfold nestAcc
      apply List.map_congr_left
      intro k _
      show (⟨kd, nestAt CC SS i (k : Int) b % 64⟩ : S65) = nestPt kd b CC SS k
      unfold nestPt
      rw [tm64, e]
    rw [List.nil_append, e4] at hx
    refine Ev.step (fun k => ?_) hx
    rw [impl_NestTrace.l0, if_neg (by omega)]
    rfl
  | succ d ih =>
    intro i n hd hi hn
    obtain ⟨q1, q2⟩ := hin i (by omega)
    have hc := in_bd _ _ _ q1
    have hs := in_bd _ _ _ q2
    obtain ⟨c, hce⟩ : ∃ c : Nat, rd CC (i : Int) = (c : Int) := ⟨(rd CC (i : Int)).toNat, by omega⟩
    have hst := places_step CC SS b i c n (rd SS (i : Int)) hce rfl
    have hlen : ((List.range n).map (fun (k : Nat) => nestAt CC SS i (k : Int) b)).length = n := by simp
    have hb : ∀ p ∈ (List.range n).map (fun (k : Nat) => nestAt CC SS i (k : Int) b), -1000000 ≤ p ∧ p ≤ 1000000 := by
      intro p hp
      obtain ⟨k, hk, rfl⟩ := List.mem_map.1 hp
      have := places_bd CC SS hin i (k : Int) b 63 (by omega) (by omega) (by omega) (by omega)
      omega
    rw [nestLoop, if_pos q1, if_pos q2, hce]
    have hmul : (n : Int) * (c : Int) = ((n * c : Nat) : Int) := by rw [Int.natCast_mul]
    rw [hmul]
    have hnc : n * c ≤ 60 * 60 := Nat.mul_le_mul hn (by omega)
    have go : ∀ {r : List S65 × Bool}, Ev (fun k => impl_NestTrace.l1 k (i : Int) (c : Int) ((List.range (n * c)).map (fun (k : Nat) => nestAt CC SS (i + 1) (k : Int) b)) CC (CC.length : Int) (i : Int) ((List.range n).map (fun (k : Nat) => nestAt CC SS i (k : Int) b)) (n : Int) (n : Int) kd b CC SS) r →
        Ev (fun k => impl_NestTrace.l0 k ((List.range n).map (fun (k : Nat) => nestAt CC SS i (k : Int) b)) CC (CC.length : Int) (i : Int) kd b CC SS) r := by
      intro r h
      have h1 := gnest_l1 kd b CC SS i (rd SS (i : Int)) (by omega) (by omega) rfl hs c (by omega) ((List.range n).map (fun (k : Nat) => nestAt CC SS i (k : Int) b)) (by omega) hb CC.length (by rw [hst, hlen]; exact h) _ 0 rfl (by omega)
      refine Ev.step (fun k => ?_) h1
      rw [impl_NestTrace.l0, if_pos (by omega), if_pos (by omega), if_pos (by omega), hce]
      rfl
    by_cases c60 : n * c ≤ 60
    · rw [if_pos (show ((n * c : Nat) : Int) < 61 by omega)]
      refine go ?_
      refine Ev.step (fun k => ?_) (ih (i + 1) (n * c) (by omega) (by omega) c60)
      rw [impl_NestTrace.l1, if_neg (by omega), if_neg (by simp; omega), wid (x := (i : Int) + 1) (by omega) (by omega), show ((i + 1 : Nat) : Int) = (i : Int) + 1 by omega]
    · rw [if_neg (show ¬ ((n * c : Nat) : Int) < 61 by omega), nestLoop_61 CC SS d (i + 1) (fun j h1 h2 => hin j (by omega)), if_neg (show ¬ ((61 : Int), true).1 ≤ 60 by decide)]
      refine go ?_
      exact ev_ret (fun k => by rw [impl_NestTrace.l1, if_neg (by omega), if_pos (by simp; omega)])
end
theorem rd_all (l : List Int) (f : Int → Bool) : (l.all f = true) ↔ ∀ j : Nat, j < l.length → f (rd l (j : Int)) = true := by
  rw [List.all_eq_true]
  constructor
  · intro h j hj; exact h _ (rd_mem l j hj)
  · intro h x hx
    obtain ⟨j, hj, rfl⟩ := List.getElem_of_mem hx
    have := h j hj
    rwa [show rd l (j : Int) = l[j] from by unfold rd; rw [Int.toNat_natCast, List.getD_eq_getElem?_getD, List.getElem?_eq_getElem hj]; rfl] at this
theorem nestLoop_no (l2 l3 : List Int) : ∀ (d i : Nat) (m : Int), (∃ j, i ≤ j ∧ j < i + d ∧ ¬ (inR 1 60 (rd l2 (j : Int)) = true ∧ inR (-1000) 1000 (rd l3 (j : Int)) = true)) → (nestLoop l2 l3 d i m).2 = false
  | 0, i, m, ⟨j, h1, h2, _⟩ => by omega
  | d + 1, i, m, ⟨j, h1, h2, h3⟩ => by
    rw [nestLoop]
    split
    · rename_i c1
      split
      · rename_i c2
        by_cases e : j = i
        · subst e; exact absurd ⟨c1, c2⟩ h3
        · exact nestLoop_no l2 l3 d (i + 1) _ ⟨j, by omega, by omega, h3⟩
      · rfl
    · rfl
theorem nestLoop_yes (l2 l3 : List Int) : ∀ (d i : Nat) (m : Int), (∀ j, i ≤ j → j < i + d → inR 1 60 (rd l2 (j : Int)) = true ∧ inR (-1000) 1000 (rd l3 (j : Int)) = true) → (nestLoop l2 l3 d i m).2 = true
  | 0, i, m, _ => rfl
  | d + 1, i, m, h => by
    obtain ⟨h1, h2⟩ := h i (Nat.le_refl _) (by omega)
    rw [nestLoop, if_pos h1, if_pos h2]
    exact nestLoop_yes l2 l3 d (i + 1) _ (fun j hj hj2 => h j (by omega) (by omega))

theorem eqA_l (a : List S65) (ha : a.length ≤ 140737488355328) (d : Nat) : ∀ (i : Int), 0 ≤ i → (a.length : Int) - i = d → Ev (fun k => laws_eqAccessS.l0 k a a i) true := by
  induction d with
  | zero => intro i h0 hd; exact ev_ret (fun k => by rw [laws_eqAccessS.l0, if_neg (by omega)])
  | succ d ih =>
    intro i h0 hd
    refine Ev.step (fun k => ?_) (ih (i + 1) (by omega) (by omega))
    rw [laws_eqAccessS.l0, if_pos (by omega), if_pos h0, if_pos (by omega)]
    unfold laws_eqAccess.f
    rw [if_pos rfl, if_pos rfl, Option.bind_some, if_pos rfl, wid (x := i + 1) (by omega) (by omega)]
theorem eqA (a : List S65) (ha : a.length ≤ 140737488355328) : Ev (fun k => laws_eqAccessS.f k a a) true := by
  unfold laws_eqAccessS.f
  simp only [if_true]
  exact eqA_l a ha a.length 0 (by omega) (by omega)

/-! marks in accesses -/
/-- A list of accesses whose numbers go up two by two from a on, as far as index i. -/
def UptoA (a : Int) (n : Nat) (xs : List S65) (i : Nat) : Prop := xs.length = n ∧ ∀ j, j < i → xs.getD j z65 = ⟨a + 2 * (j : Int), a + 2 * (j : Int) + 1⟩
theorem uptoA_set {a : Int} {n i : Nat} {xs : List S65} (h : UptoA a n xs i) (hi : i < n) : UptoA a n (xs.set i ⟨a + 2 * (i : Int), a + 2 * (i : Int) + 1⟩) (i + 1) := by
  refine ⟨by rw [List.length_set]; exact h.1, fun j hj => ?_⟩
  have hl := h.1
  rw [gset _ _ _ _ _ (by omega)]
  by_cases e : i = j
  · subst e; rw [if_pos rfl]
  · rw [if_neg e]; exact h.2 j (by omega)
theorem markA_l (a : Int) (n : Nat) (h1 : 0 ≤ a) (h2 : a ≤ 1152921504606846976) (hn : n ≤ 140737488355328) (d : Nat) : ∀ (i : Nat) (xs : List S65), UptoA a n xs i → n - i = d → i ≤ n →
    ∃ ys, Ev (fun k => laws_markAccessS.l0 k xs (a + 2 * (i : Int)) (i : Int)) (a + 2 * (n : Int), ys) ∧ UptoA a n ys n := by
  induction d with
  | zero =>
    intro i xs h hd hi
    have e : i = n := by omega
    subst e
    have hl := h.1
    exact ⟨xs, ev_ret (fun k => by rw [laws_markAccessS.l0, if_neg (by omega)]), h⟩
  | succ d ih =>
    intro i xs h hd hi
    have hl := h.1
    obtain ⟨ys, e, hy⟩ := ih (i + 1) _ (uptoA_set h (by omega)) (by omega) (by omega)
    refine ⟨ys, Ev.step (fun k => ?_) e, hy⟩
    rw [laws_markAccessS.l0, if_pos (by omega), if_pos (by omega), Option.bind_some, rdA, rdA, gset _ _ _ _ _ (by rw [Int.toNat_natCast]; omega), Int.toNat_natCast, if_pos rfl, List.set_set,
      wid (x := a + 2 * (i : Int) + 1) (by omega) (by omega), wid (x := a + 2 * (i : Int) + 1 + 1) (by omega) (by omega), wid (x := (i : Int) + 1) (by omega) (by omega)]
    rw [show a + 2 * ((i + 1 : Nat) : Int) = a + 2 * (i : Int) + 1 + 1 by omega, show ((i + 1 : Nat) : Int) = (i : Int) + 1 by omega]
theorem mark_A (a : Int) (xs : List S65) (h1 : 0 ≤ a) (h2 : a ≤ 1152921504606846976) (hn : xs.length ≤ 140737488355328) :
    ∃ ys, Ev (fun k => laws_markAccessS.f k xs a) (a + 2 * (xs.length : Int), ys) ∧ UptoA a xs.length ys xs.length := by
  obtain ⟨ys, e, hy⟩ := markA_l a xs.length h1 h2 hn xs.length 0 xs ⟨rfl, fun j hj => by omega⟩ (by omega) (by omega)
  exact ⟨ys, by simpa [laws_markAccessS.f] using e, hy⟩

theorem heldA_l (a : Int) (n : Nat) (ys : List S65) (h1 : 0 ≤ a) (h2 : a ≤ 1152921504606846976) (hn : n ≤ 140737488355328) (h : UptoA a n ys n) (d : Nat) : ∀ (i : Nat), n - i = d → i ≤ n →
    Ev (fun k => laws_heldAccessS.l0 k ys (a + 2 * (i : Int)) (i : Int)) (a + 2 * (n : Int)) := by
  have hl := h.1
  induction d with
  | zero =>
    intro i hd hi
    have e : i = n := by omega
    subst e
    exact ev_ret (fun k => by rw [laws_heldAccessS.l0, if_neg (by omega)])
  | succ d ih =>
    intro i hd hi
    refine Ev.step (fun k => ?_) (ih (i + 1) (by omega) (by omega))
    have hr := h.2 i (by omega)
    rw [laws_heldAccessS.l0, if_pos (by omega), if_pos (by omega), rdA, hr, if_pos rfl,
      wid (x := a + 2 * (i : Int) + 1) (by omega) (by omega), if_pos rfl, wid (x := a + 2 * (i : Int) + 1 + 1) (by omega) (by omega), wid (x := (i : Int) + 1) (by omega) (by omega)]
    rw [show a + 2 * ((i + 1 : Nat) : Int) = a + 2 * (i : Int) + 1 + 1 by omega, show ((i + 1 : Nat) : Int) = (i : Int) + 1 by omega]
theorem mark_heldA (a : Int) (xs : List S65) (h1 : 0 ≤ a) (h2 : a ≤ 1152921504606846976) (hn : xs.length ≤ 140737488355328) :
    ∃ ys, Ev (fun k => laws_markAccessS.f k xs a) (a + 2 * (xs.length : Int), ys) ∧ Ev (fun k => laws_heldAccessS.f k ys a) (a + 2 * (xs.length : Int)) := by
  obtain ⟨ys, e, hy⟩ := mark_A a xs h1 h2 hn
  have e2 := heldA_l a xs.length ys h1 h2 hn hy xs.length 0 (by omega) (by omega)
  exact ⟨ys, e, by simpa [laws_heldAccessS.f] using e2⟩

theorem toInts_l (l : List Int) (hl : l.length ≤ 140737488355328) (d : Nat) : ∀ (i : Nat) (xs : List Int), xs.length = l.length → (∀ j, j < i → xs.getD j 0 = l.getD j 0) → l.length - i = d → i ≤ l.length →
    Ev (fun k => laws_toInt64S.l0 k l xs (i : Int)) l := by
  induction d with
  | zero =>
    intro i xs hx h hd hi
    have e : xs = l := ext_getD hx (fun j hj => h j (by omega))
    subst e
    exact ev_ret (fun k => by rw [laws_toInt64S.l0, if_neg (by omega)])
  | succ d ih =>
    intro i xs hx h hd hi
    refine Ev.step (fun k => ?_) (ih (i + 1) (xs.set i (rd l (i : Int))) (by rw [List.length_set, hx]) (fun j hj => ?_) (by omega) (by omega))
    · rw [laws_toInt64S.l0, if_pos (by omega), if_pos (by omega), if_pos (by omega), Int.toNat_natCast, wid (x := (i : Int) + 1) (by omega) (by omega), show ((i + 1 : Nat) : Int) = (i : Int) + 1 by omega]
    · rw [getD_set _ _ _ _ (by omega)]
      by_cases e : i = j
      · subst e; rw [if_pos rfl, rd_nat]
      · rw [if_neg e]; exact h j (by omega)
theorem toInts (l : List Int) (hl : l.length ≤ 35184372088832) : Ev (fun k => laws_toInt64S.f k l) l := by
  unfold laws_toInt64S.f
  simp only [if_pos (show (0 : Int) ≤ (l.length : Int) by omega), Int.toNat_natCast, if_pos hl]
  exact toInts_l l (by omega) l.length 0 _ (by rw [List.length_replicate]) (fun j hj => by omega) (by omega) (by omega)

/-- A list is equal to itself. -/
theorem eqs_l (a : List Int) (ha : a.length ≤ 140737488355328) (d : Nat) : ∀ (i : Int), 0 ≤ i → (a.length : Int) - i = d → Ev (fun k => laws_eqInt64S.l0 k a a i) true := by
  induction d with
  | zero => intro i h0 hd; exact ev_ret (fun k => by rw [laws_eqInt64S.l0, if_neg (by omega)])
  | succ d ih =>
    intro i h0 hd
    refine Ev.step (fun k => ?_) (ih (i + 1) (by omega) (by omega))
    rw [laws_eqInt64S.l0, if_pos (by omega), if_pos h0, if_pos (by omega), if_pos rfl, wid (x := i + 1) (by omega) (by omega)]
theorem eqs (a : List Int) (ha : a.length ≤ 140737488355328) : Ev (fun k => laws_eqInt64S.f k a a) true := by
  unfold laws_eqInt64S.f
  simp only [if_true]
  exact eqs_l a ha a.length 0 (by omega) (by omega)

/-- A list whose numbers go up one by one from a on, as far as index i. -/
def Upto (a : Int) (n : Nat) (xs : List Int) (i : Nat) : Prop := xs.length = n ∧ ∀ j, j < i → xs.getD j 0 = a + (j : Int)
theorem upto_set {a : Int} {n i : Nat} {xs : List Int} (h : Upto a n xs i) (hi : i < n) : Upto a n (xs.set i (a + (i : Int))) (i + 1) := by
  refine ⟨by rw [List.length_set]; exact h.1, fun j hj => ?_⟩
  have hl := h.1
  rw [List.getD_eq_getElem?_getD, List.getElem?_set]
  by_cases e : i = j
  · subst e
    rw [if_pos rfl, if_pos (by omega)]
    rfl
  · rw [if_neg e, ← List.getD_eq_getElem?_getD]
    exact h.2 j (by omega)
theorem mark_l (a : Int) (n : Nat) (h1 : 0 ≤ a) (h2 : a ≤ 4611686018427387904) (hn : n ≤ 140737488355328) (d : Nat) : ∀ (i : Nat) (xs : List Int), Upto a n xs i → n - i = d → i ≤ n →
    ∃ ys, Ev (fun k => laws_markInt64S.l0 k xs (a + (i : Int)) (i : Int)) (a + (n : Int), ys) ∧ Upto a n ys n := by
  induction d with
  | zero =>
    intro i xs h hd hi
    have e : i = n := by omega
    subst e
    have hl := h.1
    exact ⟨xs, ev_ret (fun k => by rw [laws_markInt64S.l0, if_neg (by omega)]), h⟩
  | succ d ih =>
    intro i xs h hd hi
    have hl := h.1
    obtain ⟨ys, e, hy⟩ := ih (i + 1) _ (upto_set h (by omega)) (by omega) (by omega)
    refine ⟨ys, Ev.step (fun k => ?_) e, hy⟩
    rw [laws_markInt64S.l0, if_pos (by omega), if_pos (by omega), wid (x := a + (i : Int) + 1) (by omega) (by omega), wid (x := (i : Int) + 1) (by omega) (by omega), Int.toNat_natCast]
    rw [show a + ((i + 1 : Nat) : Int) = a + (i : Int) + 1 by omega, show ((i + 1 : Nat) : Int) = (i : Int) + 1 by omega]
theorem mark_I (a : Int) (xs : List Int) (h1 : 0 ≤ a) (h2 : a ≤ 4611686018427387904) (hn : xs.length ≤ 140737488355328) :
    ∃ ys, Ev (fun k => laws_markInt64S.f k xs a) (a + (xs.length : Int), ys) ∧ Upto a xs.length ys xs.length := by
  obtain ⟨ys, e, hy⟩ := mark_l a xs.length h1 h2 hn xs.length 0 xs ⟨rfl, fun j hj => by omega⟩ (by omega) (by omega)
  exact ⟨ys, by simpa [laws_markInt64S.f] using e, hy⟩

def nestS (kd b : Int) (l2 l3 : List Int) : List S65 × Bool := if (nestR kd b l2 l3).2 = true ∧ (nestR kd b l2 l3).1 ≤ 60 then (nestAcc kd b l2 l3 (nestR kd b l2 l3).1.toNat, true) else ([], false)
theorem spec_nestS (kd b : Int) (l2 l3 : List Int) : spec_NestTrace.f kd b l2 l3 = some (nestS kd b l2 l3) := by
  unfold spec_NestTrace.f nestS
  split <;> rfl
theorem nestS_len (kd b : Int) (l2 l3 : List Int) : (nestS kd b l2 l3).1.length ≤ 60 := by
  unfold nestS
  split
  · rename_i h
    rw [show (nestAcc kd b l2 l3 (nestR kd b l2 l3).1.toNat, true).1 = nestAcc kd b l2 l3 (nestR kd b l2 l3).1.toNat from rfl, nestAcc_len]
    omega
  · simp
theorem kind_i (kd : Int) : impl_isKind.f kd = some (PFnExactNestTrace.kindOk kd) := by
  unfold impl_isKind.f impl_inRange.f PFnExactNestTrace.kindOk
  by_cases h0 : 0 ≤ kd
  · rw [if_pos h0, Option.bind_some]
    congr 1
    by_cases h1 : kd ≤ 1
    · rw [decide_eq_true h1]
      by_cases z : kd = 0
      · rw [decide_eq_true z]; rfl
      · have : kd = 1 := by omega
        subst this; rfl
    · have a1 : ¬ kd = 0 := by omega
      have a2 : (kd == 1) = false := beq_eq_false_iff_ne.2 (by omega)
      rw [decide_eq_false h1, decide_eq_false a1, a2]; rfl
  · have a1 : ¬ kd = 0 := by omega
    have a2 : (kd == 1) = false := beq_eq_false_iff_ne.2 (by omega)
    rw [if_neg h0, Option.bind_some, decide_eq_false a1, a2]; rfl
theorem addr_i (b : Int) : impl_isAddress.f b = some (addrOk b) := by
  unfold impl_isAddress.f impl_inRange.f addrOk
  by_cases h0 : 0 ≤ b
  · rw [if_pos h0, Option.bind_some, decide_eq_true h0, Bool.true_and]
  · rw [if_neg h0, Option.bind_some, decide_eq_false h0, Bool.false_and]
theorem allIn_i (l : List Int) (lo hi : Int) : impl_allIn.f l lo hi = some (l.all (inR lo hi)) := rfl
theorem impl_nestS (kd b : Int) (l2 l3 : List Int) : Ev (fun k => impl_NestTrace.f k kd b l2 l3) (nestS kd b l2 l3) := by
  have no : Ev (fun k => impl_NestTrace.j0 k true kd b l2 l3) ([], false) := ev_ret (fun k => by rw [impl_NestTrace.j0, if_pos rfl])
  unfold impl_NestTrace.f
  simp only [kind_i, addr_i, allIn_i, Option.bind_some]
  by_cases c1 : PFnExactNestTrace.kindOk kd = true
  · simp only [if_pos c1]
    by_cases c2 : addrOk b = true
    · simp only [if_pos c2]
      by_cases c3 : (l2.length : Int) > 3
      · simp only [if_pos c3]
        have : nestS kd b l2 l3 = ([], false) := by
          unfold nestS nestR
          rw [if_neg (show ¬ ((PFnExactNestTrace.kindOk kd && addrOk b) = true ∧ l2.length ≤ 3 ∧ l3.length = l2.length) by rintro ⟨-, h, -⟩; omega), if_neg (by rintro ⟨h, -⟩; cases h)]
        rw [this]; exact no
      · simp only [if_neg c3]
        by_cases c4 : (l3.length : Int) = (l2.length : Int)
        · simp only [if_pos c4]
          have hR : nestR kd b l2 l3 = nestLoop l2 l3 l2.length 0 1 := by
            unfold nestR
            rw [if_pos ⟨by rw [c1, c2]; rfl, by omega, by omega⟩]
          have bad : ¬ (∀ j, j < l2.length → inR 1 60 (rd l2 (j : Int)) = true ∧ inR (-1000) 1000 (rd l3 (j : Int)) = true) → nestS kd b l2 l3 = ([], false) := by
            intro h
            have hn : (nestLoop l2 l3 l2.length 0 1).2 = false := by
              refine nestLoop_no l2 l3 l2.length 0 1 ?_
              obtain ⟨j, hj⟩ := Classical.not_forall.1 h
              obtain ⟨hj1, hj2⟩ := Classical.not_imp.1 hj
              exact ⟨j, by omega, by omega, hj2⟩
            unfold nestS
            rw [hR, if_neg (by rintro ⟨h, -⟩; rw [hn] at h; cases h)]
          by_cases c5 : l2.all (inR 1 60) = true
          · simp only [if_pos c5]
            by_cases c6 : l3.all (inR (-1000) 1000) = true
            · rw [c6]
              have hin : ∀ j, j < l2.length → inR 1 60 (rd l2 (j : Int)) = true ∧ inR (-1000) 1000 (rd l3 (j : Int)) = true := fun j hj => ⟨(rd_all l2 _).1 c5 j hj, (rd_all l3 _).1 c6 j (by omega)⟩
              have hb := in_bd 0 63 b (by unfold inR; exact c2)
              have h0 := gnest_l0 kd b l2 l3 (by omega) (by omega) hb hin l2.length 0 1 (by omega) (by omega) (by omega)
              have hy : (nestLoop l2 l3 l2.length 0 1).2 = true := nestLoop_yes l2 l3 l2.length 0 1 (fun j _ hj => hin j (by omega))
              have e1 : (List.range 1).map (fun (k : Nat) => nestAt l2 l3 0 (k : Int) b) = [b] := rfl
              rw [e1] at h0
              have e2 : (if (nestLoop l2 l3 l2.length 0 ((1 : Nat) : Int)).1 ≤ 60 then (nestAcc kd b l2 l3 (nestLoop l2 l3 l2.length 0 ((1 : Nat) : Int)).1.toNat, true) else ([], false)) = nestS kd b l2 l3 := by
                unfold nestS
                rw [hR]
                by_cases q : (nestLoop l2 l3 l2.length 0 1).1 ≤ 60
                · exact (if_pos q).trans (if_pos ⟨hy, q⟩).symm
                · exact (if_neg q).trans (if_neg (fun h => q h.2)).symm
              rw [e2] at h0
              exact Ev.step (fun k => by rw [impl_NestTrace.j0, if_neg (by decide)]; rfl) h0
            · have c6' : l3.all (inR (-1000) 1000) = false := by simpa using c6
              rw [c6', bad (fun h => c6 ((rd_all l3 _).2 (fun j hj => (h j (by omega)).2)))]
              exact no
          · simp only [if_neg c5]
            rw [bad (fun h => c5 ((rd_all l2 _).2 (fun j hj => (h j hj).1)))]
            exact no
        · simp only [if_neg c4]
          have : nestS kd b l2 l3 = ([], false) := by
            unfold nestS nestR
            rw [if_neg (show ¬ ((PFnExactNestTrace.kindOk kd && addrOk b) = true ∧ l2.length ≤ 3 ∧ l3.length = l2.length) by rintro ⟨-, -, h⟩; omega), if_neg (by rintro ⟨h, -⟩; cases h)]
          rw [this]; exact no
    · simp only [if_neg c2]
      have : nestS kd b l2 l3 = ([], false) := by
        unfold nestS nestR
        rw [if_neg (show ¬ ((PFnExactNestTrace.kindOk kd && addrOk b) = true ∧ l2.length ≤ 3 ∧ l3.length = l2.length) by rintro ⟨h, -, -⟩; rw [Bool.and_eq_true] at h; exact c2 h.2), if_neg (by rintro ⟨h, -⟩; cases h)]
      rw [this]; exact no
  · simp only [if_neg c1]
    have : nestS kd b l2 l3 = ([], false) := by
      unfold nestS nestR
      rw [if_neg (show ¬ ((PFnExactNestTrace.kindOk kd && addrOk b) = true ∧ l2.length ≤ 3 ∧ l3.length = l2.length) by rintro ⟨h, -, -⟩; rw [Bool.and_eq_true] at h; exact c1 h.1), if_neg (by rintro ⟨h, -⟩; cases h)]
    rw [this]; exact no
theorem szI (l : List Int) (n : Int) (h0 : 0 ≤ n) (hn : n ≤ 1048576) (hl : l.length ≤ 9223372036854775807) : laws_szInt64S.f l n = some (if n < (l.length : Int) then -1 else n - (l.length : Int)) := by
  unfold laws_szInt64S.f
  rw [wid (by omega) (by omega)]
  by_cases h : n < (l.length : Int)
  · rw [if_pos (by omega), if_pos h]
  · rw [if_neg (by omega), if_neg h]
theorem FnExactNestTrace : laws_FnExactNestTrace.Pure := by
  intro kd b l2 l3 _ _ h2 h3
  refine Ev.rounds (r := true) ?_
  unfold laws_FnExactNestTrace.f
  have hz : ∃ s, laws_szNest.f kd b l2 l3 1048576 = some s ∧ (s < 0 ∨ (l2.length ≤ 1048576 ∧ l3.length ≤ 1048576 ∧ ¬ s < 0)) := by
    unfold laws_szNest.f
    rw [szI l2 1048576 (by omega) (by omega) h2.1, Option.bind_some]
    by_cases a : 1048576 < (l2.length : Int)
    · rw [if_pos a, if_pos (by omega)]; exact ⟨_, rfl, Or.inl (by omega)⟩
    · rw [if_neg a, if_neg (by omega), szI l3 _ (by omega) (by omega) h3.1, Option.bind_some]
      by_cases c : 1048576 - (l2.length : Int) < (l3.length : Int)
      · rw [if_pos c, if_pos (by omega)]; exact ⟨_, rfl, Or.inl (by omega)⟩
      · rw [if_neg c, if_neg (by omega)]; exact ⟨_, rfl, Or.inr ⟨by omega, by omega, by omega⟩⟩
  obtain ⟨s, es, hs⟩ := hz
  rw [es]
  simp only [Option.bind_some]
  rcases hs with hs | ⟨hl2, hl3, hs⟩
  · simp only [if_pos hs]; exact Ev.now _
  simp only [if_neg hs]
  have et : Ev (fun k => laws_toNest.f k kd b l2 l3) (kd, b, l2, l3) := by
    unfold laws_toNest.f
    exact Ev.bind (toInts l2 (by omega)) (Ev.bind (toInts l3 (by omega)) (Ev.now _))
  have hln := nestS_len kd b l2 l3
  have ei := impl_nestS kd b l2 l3
  have esp := spec_nestS kd b l2 l3
  generalize nestS kd b l2 l3 = r at *
  obtain ⟨ys, hm, hh⟩ := mark_heldA 1 r.1 (by omega) (by omega) (by omega)
  obtain ⟨m2, hm2, _⟩ := mark_I 1 l2 (by omega) (by omega) (by omega)
  obtain ⟨m3, hm3, _⟩ := mark_I (1 + (l2.length : Int)) l3 (by omega) (by omega) (by omega)
  have eqN : Ev (fun k => laws_eqNest.f k kd b l2 l3 kd b l2 l3) true := by
    unfold laws_eqNest.f
    simp only [if_true]
    refine Ev.bind (eqs l2 (by omega)) ?_
    simp only [if_true]
    refine Ev.bind (eqs l3 (by omega)) ?_
    simp only [if_true]
    exact Ev.now _
  have mkN : Ev (fun k => laws_markNest.f k kd b l2 l3 1) (1 + (l2.length : Int) + (l3.length : Int), m2, m3) := by
    unfold laws_markNest.f
    exact Ev.bind hm2 (Ev.bind hm3 (Ev.now _))
  refine Ev.bind et ?_
  rw [esp]
  refine Ev.bind (Ev.now _) (Ev.bind et (Ev.bind ei (Ev.bind (eqA r.1 (by omega)) ?_)))
  simp only [if_true, bne_self_eq_false]
  refine Ev.step (fun k => by rw [laws_FnExactNestTrace.j0, if_neg (by decide)]) ?_
  refine Ev.bind et (Ev.bind eqN ?_)
  simp only [if_true]
  refine Ev.bind mkN ?_
  simp only [if_neg (show ¬ (1 + (l2.length : Int) + (l3.length : Int) < 0) by omega)]
  refine Ev.bind (eqA r.1 (by omega)) ?_
  simp only [if_true, bne_self_eq_false]
  refine Ev.step (fun k => by rw [laws_FnExactNestTrace.j1, if_neg (by decide)]) ?_
  refine Ev.bind hm (Ev.bind hh ?_)
  simp only [if_neg (show ¬ (1 + 2 * (r.1.length : Int) < 0) by omega), if_true]
  refine Ev.bind et (Ev.bind ei (Ev.bind (eqA r.1 (by omega)) ?_))
  simp only [if_true, bne_self_eq_false]
  refine Ev.step (fun k => by rw [laws_FnExactNestTrace.j2, if_neg (by decide)]) ?_
  refine Ev.bind hh (ev_all fun k => ?_)
  rw [if_neg (by omega), if_pos rfl]

end Go.Proofs.Ytigbabolmahlaaa.Pure
