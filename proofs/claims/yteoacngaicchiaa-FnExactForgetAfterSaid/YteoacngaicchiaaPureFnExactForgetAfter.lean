/- The program's ForgetAfter returns what the reference's returns, for every policy, and leaves it as it was. Conditions: those of the row alone. -/
import Derived.Test.YteoacngaicchiaaPFnExactForgetAftery
namespace Go.Proofs.Yteoacngaicchiaa.Pure
open Go.RowKit Go.Proofs.Yteoacngaicchiaa.PFnExactForgetAfter Go.Proofs.YteoacngaicchiaaW.PrintWords Go.Proofs.YteoacngaicchiaaW.PrintLast Go.Proofs.YteoacngaicchiaaW.PrintMore
set_option linter.unusedVariables false
set_option linter.unusedSimpArgs false

theorem wid {x : Int} (h1 : -9223372036854775808 ≤ x) (h2 : x < 9223372036854775808) : wrap64 x = x := by unfold wrap64; omega
theorem i64_bd {x : Int} (h : (Lit.int .i64 x).wf = true) : -9223372036854775808 ≤ x ∧ x ≤ 9223372036854775807 := by
  simp only [Lit.wf, IntKind.min, IntKind.max, IntKind.signed, IntKind.bits, Bool.and_eq_true, decide_eq_true_eq, if_true] at h
  omega
/-- A loop's step, its answer known at once. -/
theorem ev_ret {α : Type} {g : Nat → Option α} {r : α} (h : ∀ k, g (k + 1) = some r) : Ev g r := Ev.step (f := fun _ => some r) h (Ev.now r)
theorem ev_all {α : Type} {g : Nat → Option α} {r : α} (h : ∀ k, g k = some r) : Ev g r := ⟨0, fun k _ => h k⟩

theorem getD_set (xs : List Int) (i j : Nat) (v : Int) (hi : i < xs.length) : (xs.set i v).getD j 0 = if i = j then v else xs.getD j 0 := by
  rw [List.getD_eq_getElem?_getD, List.getElem?_set]
  by_cases e : i = j
  · subst e; rw [if_pos rfl, if_pos hi, if_pos rfl]; rfl
  · rw [if_neg e, if_neg e, List.getD_eq_getElem?_getD]
theorem ext_getD {xs ys : List Int} (h : xs.length = ys.length) (he : ∀ j, j < xs.length → xs.getD j 0 = ys.getD j 0) : xs = ys := by
  apply List.ext_getElem h
  intro j h1 h2
  have := he j h1
  rwa [List.getD_eq_getElem?_getD, List.getD_eq_getElem?_getD, List.getElem?_eq_getElem h1, List.getElem?_eq_getElem h2] at this
theorem rd_nat (xs : List Int) (i : Nat) : rd xs (i : Int) = xs.getD i 0 := by unfold rd; rw [Int.toNat_natCast]
theorem rd_mem (xs : List Int) (i : Nat) (h : i < xs.length) : rd xs (i : Int) ∈ xs := by
  rw [rd_nat, List.getD_eq_getElem?_getD, List.getElem?_eq_getElem h]
  exact List.getElem_mem _
theorem take_snoc (xs : List Int) (i : Nat) (h : i < xs.length) : xs.take (i + 1) = xs.take i ++ [rd xs (i : Int)] := by
  rw [List.take_succ_eq_append_getElem h, rd_nat, List.getD_eq_getElem?_getD, List.getElem?_eq_getElem h]
  rfl
theorem drop_cons (xs : List Int) (i : Nat) (h : i < xs.length) : xs.drop i = rd xs (i : Int) :: xs.drop (i + 1) := by
  rw [List.drop_eq_getElem_cons h, rd_nat, List.getD_eq_getElem?_getD, List.getElem?_eq_getElem h]
  rfl

/-! the heights of the sets -/
/-- One more than the greatest of the numbers behind some sets. -/
def hlist (g : Int → Option Int) : List Int → Option Int
  | [] => some 0
  | y :: l => (g y).bind fun a => (hlist g l).bind fun b => some (max (a + 1) b)
/-- How many uses it takes at most, by depth. -/
def hgt (N : Int → List Int) : Nat → Int → Option Int
  | 0, m => if m = 0 then some 0 else none
  | d + 1, m => if m = 0 then some 0 else hlist (hgt N d) (N m)
theorem hlist_some {g : Int → Option Int} {y : Int} {l : List Int} {v : Int} (h : hlist g (y :: l) = some v) : ∃ a b, g y = some a ∧ hlist g l = some b ∧ v = max (a + 1) b := by
  rw [hlist] at h
  obtain ⟨a, ha, h⟩ := Option.bind_eq_some_iff.mp h
  obtain ⟨b, hb, h⟩ := Option.bind_eq_some_iff.mp h
  exact ⟨a, b, ha, hb, (Option.some.inj h).symm⟩
theorem hlist_mono {g g' : Int → Option Int} (hg : ∀ y a, g y = some a → g' y = some a) : ∀ (l : List Int) (v : Int), hlist g l = some v → hlist g' l = some v
  | [], v, h => h
  | y :: l, v, h => by
    obtain ⟨a, b, ha, hb, rfl⟩ := hlist_some h
    rw [hlist, hg y a ha, Option.bind_some, hlist_mono hg l b hb, Option.bind_some]
theorem hlist_all {g : Int → Option Int} : ∀ (l : List Int), (hlist g l).isSome = true ↔ ∀ y ∈ l, (g y).isSome = true
  | [] => ⟨fun _ y h => (by cases h), fun _ => rfl⟩
  | y :: l => by
    constructor
    · intro h z hz
      obtain ⟨v, hv⟩ := Option.isSome_iff_exists.1 h
      obtain ⟨a, b, ha, hb, rfl⟩ := hlist_some hv
      rcases List.mem_cons.1 hz with rfl | hz
      · rw [ha]; rfl
      · exact (hlist_all l).1 (by rw [hb]; rfl) z hz
    · intro h
      obtain ⟨a, ha⟩ := Option.isSome_iff_exists.1 (h y (List.mem_cons_self ..))
      obtain ⟨b, hb⟩ := Option.isSome_iff_exists.1 ((hlist_all l).2 fun z hz => h z (List.mem_cons_of_mem _ hz))
      rw [hlist, ha, Option.bind_some, hb, Option.bind_some]
      rfl
theorem hgt_zero (N : Int → List Int) (d : Nat) : hgt N d 0 = some 0 := by
  cases d <;> rw [hgt, if_pos rfl]
theorem hgt_step (N : Int → List Int) : ∀ (d : Nat) (m v : Int), hgt N d m = some v → hgt N (d + 1) m = some v
  | 0, m, v, h => by
    rw [hgt] at h
    by_cases e : m = 0
    · subst e
      rw [if_pos rfl] at h
      rw [hgt_zero]
      exact h
    · rw [if_neg e] at h; cases h
  | d + 1, m, v, h => by
    rw [hgt] at h ⊢
    by_cases e : m = 0
    · rw [if_pos e] at h ⊢; exact h
    · rw [if_neg e] at h ⊢
      exact hlist_mono (fun y a ha => hgt_step N d y a ha) _ _ h
theorem hgt_le (N : Int → List Int) {d e : Nat} (h : d ≤ e) {m v : Int} (hv : hgt N d m = some v) : hgt N e m = some v := by
  induction h with
  | refl => exact hv
  | step _ ih => exact hgt_step N _ _ _ ih
theorem hgt_same (N : Int → List Int) {d e : Nat} {m v u : Int} (h1 : hgt N d m = some v) (h2 : hgt N e m = some u) : v = u := by
  have a := hgt_le N (Nat.le_max_left d e) h1
  have b := hgt_le N (Nat.le_max_right d e) h2
  rw [a] at b
  exact Option.some.inj b
theorem hlist_bd {g : Int → Option Int} {d : Int} (hd : 0 ≤ d) (hg : ∀ y a, g y = some a → 0 ≤ a ∧ a ≤ d) : ∀ (l : List Int) (v : Int), hlist g l = some v → 0 ≤ v ∧ v ≤ d + 1
  | [], v, h => by
    have := Option.some.inj h
    omega
  | y :: l, v, h => by
    obtain ⟨a, b, ha, hb, rfl⟩ := hlist_some h
    have h1 := hg y a ha
    have h2 := hlist_bd hd hg l b hb
    omega
theorem hgt_bd (N : Int → List Int) : ∀ (d : Nat) (m v : Int), hgt N d m = some v → 0 ≤ v ∧ v ≤ (d : Int)
  | 0, m, v, h => by
    rw [hgt] at h
    split at h
    · have := Option.some.inj h; omega
    · cases h
  | d + 1, m, v, h => by
    rw [hgt] at h
    split at h
    · have := Option.some.inj h; omega
    · have := hlist_bd (d := (d : Int)) (by omega) (fun y a ha => hgt_bd N d y a ha) _ _ h
      omega
/-- A set's children have heights where it has one. -/
theorem hgt_child (N : Int → List Int) {d : Nat} {m : Int} (hm : m ≠ 0) (h : (hgt N d m).isSome = true) : ∃ e, d = e + 1 ∧ ∀ y ∈ N m, (hgt N e y).isSome = true := by
  cases d with
  | zero => rw [hgt, if_neg hm] at h; cases h
  | succ e =>
    rw [hgt, if_neg hm] at h
    exact ⟨e, rfl, (hlist_all _).1 h⟩
theorem hgt_up (N : Int → List Int) {e : Nat} {m : Int} (h : ∀ y ∈ N m, (hgt N e y).isSome = true) : (hgt N (e + 1) m).isSome = true := by
  rw [hgt]
  split
  · rfl
  · exact (hlist_all _).2 h
theorem isSome_le (N : Int → List Int) {d e : Nat} (h : d ≤ e) {m : Int} (hv : (hgt N d m).isSome = true) : (hgt N e m).isSome = true := by
  obtain ⟨v, hv⟩ := Option.isSome_iff_exists.1 hv
  rw [hgt_le N h hv]
  rfl
theorem filter_more {p q : Int → Bool} : ∀ (L : List Int), (∀ x ∈ L, p x = true → q x = true) → (L.filter p).length ≤ (L.filter q).length ∧ ((∃ x ∈ L, q x = true ∧ ¬ p x = true) → (L.filter p).length + 1 ≤ (L.filter q).length)
  | [], _ => ⟨Nat.le_refl _, fun ⟨x, hx, _⟩ => by cases hx⟩
  | y :: L, h => by
    obtain ⟨h1, h2⟩ := filter_more L (fun x hx => h x (List.mem_cons_of_mem _ hx))
    have hy := h y (List.mem_cons_self ..)
    rw [List.filter_cons, List.filter_cons]
    by_cases py : p y = true
    · rw [if_pos py, if_pos (hy py), List.length_cons, List.length_cons]
      refine ⟨by omega, fun ⟨x, hx, hq, hp⟩ => ?_⟩
      rcases List.mem_cons.1 hx with rfl | hx
      · exact absurd py hp
      · have := h2 ⟨x, hx, hq, hp⟩; omega
    · rw [if_neg py]
      by_cases qy : q y = true
      · rw [if_pos qy, List.length_cons]
        exact ⟨by omega, fun _ => by omega⟩
      · rw [if_neg qy]
        refine ⟨h1, fun ⟨x, hx, hq, hp⟩ => ?_⟩
        rcases List.mem_cons.1 hx with rfl | hx
        · exact absurd hq qy
        · exact h2 ⟨x, hx, hq, hp⟩
theorem filter_full {p : Int → Bool} : ∀ (L : List Int), L.length ≤ (L.filter p).length → ∀ x ∈ L, p x = true
  | [], _, x, hx => by cases hx
  | y :: L, h, x, hx => by
    rw [List.filter_cons] at h
    have hl := List.length_filter_le p L
    by_cases py : p y = true
    · rw [if_pos py, List.length_cons, List.length_cons] at h
      rcases List.mem_cons.1 hx with rfl | hx
      · exact py
      · exact filter_full L (by omega) x hx
    · rw [if_neg py, List.length_cons] at h
      omega
/-- In a closed list a set that has a height has it at the list's length. -/
theorem hgt_list (N : Int → List Int) (L : List Int) (hc : ∀ m ∈ L, m ≠ 0 → ∀ y ∈ N m, y ∈ L) {d : Nat} {m : Int} (hm : m ∈ L) (h : (hgt N d m).isSome = true) : (hgt N L.length m).isSome = true := by
  have stable : ∀ e, (∀ x ∈ L, (hgt N (e + 1) x).isSome = true → (hgt N e x).isSome = true) → ∀ k, ∀ x ∈ L, (hgt N (e + k) x).isSome = true → (hgt N e x).isSome = true := by
    intro e hs k
    induction k with
    | zero => exact fun x _ hx => hx
    | succ k ih =>
      intro x hx h
      by_cases x0 : x = 0
      · subst x0; rw [hgt_zero]; rfl
      · obtain ⟨e', he, hch⟩ := hgt_child N x0 h
        have : e' = e + k := by omega
        subst this
        exact hs x hx (hgt_up N (fun y hy => ih y (hc x hx x0 y hy) (hch y hy)))
  have key : ∀ k, (∃ e, e ≤ k ∧ ∀ x ∈ L, (hgt N (e + 1) x).isSome = true → (hgt N e x).isSome = true) ∨ k ≤ (L.filter fun x => (hgt N k x).isSome).length := by
    intro k
    induction k with
    | zero => exact .inr (Nat.zero_le _)
    | succ k ih =>
      rcases ih with ⟨e, he, hs⟩ | ih
      · exact .inl ⟨e, by omega, hs⟩
      · by_cases hs : ∀ x ∈ L, (hgt N (k + 1) x).isSome = true → (hgt N k x).isSome = true
        · exact .inl ⟨k, by omega, hs⟩
        · right
          have hex : ∃ x ∈ L, (hgt N (k + 1) x).isSome = true ∧ ¬ (hgt N k x).isSome = true := by
            apply Classical.byContradiction
            intro hn
            exact hs fun x hx h1 => Classical.byContradiction fun h2 => hn ⟨x, hx, h1, h2⟩
          have := (filter_more (p := fun x => (hgt N k x).isSome) (q := fun x => (hgt N (k + 1) x).isSome) L (fun x _ hx => isSome_le N (Nat.le_succ k) hx)).2 hex
          omega
  rcases key L.length with ⟨e, he, hs⟩ | hk
  · refine isSome_le N he (stable e hs d m hm (isSome_le N (Nat.le_add_left d e) h))
  · exact filter_full L hk m hm
/-- A way over at least one use. -/
inductive Way (N : Int → List Int) : Int → Int → Prop
  | one {a b : Int} (h : a ≠ 0) (hb : b ∈ N a) : Way N a b
  | more {a b c : Int} (h : Way N a b) (h0 : b ≠ 0) (hc : c ∈ N b) : Way N a c
theorem way_less (N : Int → List Int) {a b : Int} (h : Way N a b) : ∀ d, (hgt N d a).isSome = true → ∃ e, e < d ∧ (hgt N e b).isSome = true := by
  induction h with
  | one h hb =>
    intro d hd
    obtain ⟨e, rfl, hc⟩ := hgt_child N h hd
    exact ⟨e, Nat.lt_succ_self e, hc _ hb⟩
  | more _ h0 hc ih =>
    intro d hd
    obtain ⟨e, he, hb⟩ := ih d hd
    obtain ⟨e', rfl, hcc⟩ := hgt_child N h0 hb
    exact ⟨e', by omega, hcc _ hc⟩
theorem way_circle (N : Int → List Int) {a : Int} (h : Way N a a) : ∀ d, ¬ (hgt N d a).isSome = true := by
  intro d
  induction d using Nat.strongRecOn with
  | _ d ih =>
    intro hd
    obtain ⟨e, he, hb⟩ := way_less N h d hd
    exact ih e he hb

/-! the program's search, depth by depth -/
/-- What is known is right. -/
def KnOk (N : Int → List Int) (kn : Int → Option Int) : Prop := ∀ x v, kn x = some v → hgt N 64 x = some v
def masks : List Int := (List.range 64).map fun n : Nat => (n : Int)
theorem mem_masks (x : Int) : x ∈ masks ↔ 0 ≤ x ∧ x < 64 := by
  unfold masks
  constructor
  · intro h
    obtain ⟨n, hn, rfl⟩ := List.mem_map.1 h
    have := List.mem_range.1 hn
    omega
  · intro h
    exact List.mem_map.2 ⟨x.toNat, List.mem_range.2 (by omega), by simp; omega⟩
theorem masks_len : masks.length = 64 := by unfold masks; rw [List.length_map, List.length_range]
/-- How many sets are not open. -/
def shut (op : Int → Bool) : Nat := (masks.filter fun x => !op x).length
theorem shut_open {op op' : Int → Bool} {m : Int} (h0 : 0 ≤ m) (h1 : m < 64) (hm : op m = false) (h : ∀ x, op' x = Far.upd op m true x) : shut op' + 1 ≤ shut op := by
  unfold shut
  refine (filter_more (p := fun x => !op' x) (q := fun x => !op x) masks (fun x _ hx => ?_)).2 ⟨m, (mem_masks m).2 ⟨h0, h1⟩, by rw [hm]; rfl, by rw [h, Far.upd, if_pos rfl]; decide⟩
  rw [h, Far.upd] at hx
  split at hx
  · cases hx
  · exact hx
theorem shut_same {op op' : Int → Bool} (h : ∀ x, op' x = op x) : shut op' = shut op := by
  unfold shut
  have : op' = op := funext h
  rw [this]
section
variable {N : Int → List Int} (hN : ∀ m, 0 ≤ m → m < 64 → ∀ y ∈ N m, 0 ≤ y ∧ y < 64)
include hN
theorem hgt64 {d : Nat} {m : Int} (h0 : 0 ≤ m) (h1 : m < 64) (h : (hgt N d m).isSome = true) : (hgt N 64 m).isSome = true := by
  have := hgt_list N masks (fun x hx _ y hy => by
    have hx := (mem_masks x).1 hx
    exact (mem_masks y).2 (hN x hx.1 hx.2 y hy)) ((mem_masks m).2 ⟨h0, h1⟩) h
  rwa [masks_len] at this
theorem hgt64_at {d : Nat} {m v : Int} (h0 : 0 ≤ m) (h1 : m < 64) (h : hgt N d m = some v) : hgt N 64 m = some v := by
  obtain ⟨u, hu⟩ := Option.isSome_iff_exists.1 (hgt64 hN h0 h1 (d := d) (by rw [h]; rfl))
  rw [hu, hgt_same N h hu]
theorem lp_ok (d : Nat) (m : Int) (op1 : Int → Bool) (hm0 : 0 ≤ m) (hm1 : m < 64)
    (ih : ∀ (y : Int) (kn : Int → Option Int) (op : Int → Bool), 0 ≤ y → y < 64 → KnOk N kn → (∀ x, op x = op1 x) → y ∈ N m → ∃ r, dfsF N d y kn op = some r ∧ (r.ok = true → hgt N 64 y = some r.n ∧ KnOk N r.kn ∧ ∀ x, r.op x = op x) ∧ (r.ok = false → r.n = 0 ∧ hgt N 64 y = none)) :
    ∀ (l : List Int) (most : Int) (kn : Int → Option Int) (op : Int → Bool), 0 ≤ most → most ≤ 1000 → KnOk N kn → (∀ x, op x = op1 x) → (∀ y ∈ l, y ∈ N m) →
      ∃ r, lpF (dfsF N d) l most kn op = some r ∧ (r.ok = true → (∃ b, hlist (hgt N 64) l = some b ∧ r.n = max most b) ∧ KnOk N r.kn ∧ ∀ x, r.op x = op1 x) ∧ (r.ok = false → r.n = 0 ∧ ∃ y ∈ l, hgt N 64 y = none)
  | [], most, kn, op, h0, h1, hk, ho, _ => ⟨⟨most, true, kn, op⟩, rfl, fun _ => ⟨⟨0, rfl, (Int.max_eq_left h0).symm⟩, hk, ho⟩, fun h => by cases h⟩
  | y :: l, most, kn, op, h0, h1, hk, ho, hl => by
    have hy := hl y (List.mem_cons_self ..)
    have hyb := hN m hm0 hm1 y hy
    obtain ⟨r, hr, hr1, hr2⟩ := ih y kn op hyb.1 hyb.2 hk ho hy
    rw [lpF, hr, Option.bind_some]
    cases hok : r.ok with
    | true =>
      obtain ⟨e1, e2, e3⟩ := hr1 hok
      have hb := hgt_bd N 64 y r.n e1
      have hw : wrap64 (r.n + 1) = r.n + 1 := wid (by omega) (by omega)
      rw [if_pos rfl, hw]
      obtain ⟨r', hr', g1, g2⟩ := lp_ok d m op1 hm0 hm1 ih l (max most (r.n + 1)) r.kn r.op (by omega) (by omega) e2 (fun x => (e3 x).trans (ho x)) (fun z hz => hl z (List.mem_cons_of_mem _ hz))
      refine ⟨r', hr', fun h => ?_, fun h => ?_⟩
      · obtain ⟨⟨b, hb1, hb2⟩, g3, g4⟩ := g1 h
        exact ⟨⟨max (r.n + 1) b, by rw [hlist, e1, Option.bind_some, hb1, Option.bind_some], by rw [hb2]; omega⟩, g3, g4⟩
      · obtain ⟨g3, z, hz, g4⟩ := g2 h
        exact ⟨g3, z, List.mem_cons_of_mem _ hz, g4⟩
    | false =>
      obtain ⟨e1, e2⟩ := hr2 hok
      rw [if_neg (by decide)]
      exact ⟨_, rfl, fun h => (by cases h), fun _ => ⟨rfl, y, List.mem_cons_self .., e2⟩⟩
theorem dfs_ok : ∀ (d : Nat) (m : Int) (kn : Int → Option Int) (op : Int → Bool), 0 ≤ m → m < 64 → KnOk N kn → (∀ x, op x = true → Way N x m) → shut op + 1 ≤ d →
    ∃ r, dfsF N d m kn op = some r ∧ (r.ok = true → hgt N 64 m = some r.n ∧ KnOk N r.kn ∧ ∀ x, r.op x = op x) ∧ (r.ok = false → r.n = 0 ∧ hgt N 64 m = none)
  | 0, _, _, _, _, _, _, _, h => by omega
  | d + 1, m, kn, op, hm0, hm1, hk, ho, hd => by
    rw [dfsF]
    by_cases hz : m = 0
    · rw [if_pos hz]
      subst hz
      exact ⟨_, rfl, fun _ => ⟨hgt_zero N 64, hk, fun _ => rfl⟩, fun h => by cases h⟩
    rw [if_neg hz]
    cases hkm : kn m with
    | some v => exact ⟨_, rfl, fun _ => ⟨hk m v hkm, hk, fun _ => rfl⟩, fun h => by cases h⟩
    | none =>
      dsimp only
      cases hom : op m with
      | true =>
        rw [if_pos rfl]
        refine ⟨_, rfl, fun h => (by cases h), fun _ => ⟨rfl, ?_⟩⟩
        have := way_circle N (ho m hom) 64
        cases hh : hgt N 64 m with
        | none => rfl
        | some v => rw [hh] at this; exact absurd rfl this
      | false =>
        rw [if_neg (by decide)]
        have hsh := shut_open hm0 hm1 hom (op' := Far.upd op m true) (fun _ => rfl)
        obtain ⟨r, hr, g1, g2⟩ := lp_ok hN d m (Far.upd op m true) hm0 hm1 (fun y kn' op' hy0 hy1 hk' ho' hy => dfs_ok d y kn' op' hy0 hy1 hk' (fun x hx => by
            rw [ho', Far.upd] at hx
            split at hx
            · rename_i e; subst e; exact .one hz hy
            · exact .more (ho x hx) hz hy) (by rw [shut_same ho']; omega)) (N m) 0 kn (Far.upd op m true) (by omega) (by omega) hk (fun _ => rfl) (fun _ h => h)
        rw [hr, Option.bind_some]
        cases hok : r.ok with
        | true =>
          rw [if_pos rfl]
          obtain ⟨⟨b, hb1, hb2⟩, g3, g4⟩ := g1 hok
          have hgm : hgt N 65 m = some b := by rw [hgt, if_neg hz]; exact hb1
          have hb0 := hgt_bd N 65 m b hgm
          have hrn : r.n = b := by rw [hb2]; omega
          have h64 : hgt N 64 m = some r.n := by rw [hrn]; exact hgt64_at hN hm0 hm1 hgm
          refine ⟨_, rfl, fun _ => ⟨h64, fun x v hx => ?_, fun x => ?_⟩, fun h => by cases h⟩
          · have hx' : Far.upd r.kn m (some r.n) x = some v := hx
            rw [Far.upd] at hx'
            split at hx'
            · rename_i e
              subst e
              rw [h64]
              exact hx'
            · exact g3 x v hx'
          · show Far.upd r.op m false x = op x
            rw [Far.upd]
            split
            · rename_i e; subst e; exact hom.symm
            · rename_i e
              rw [g4, Far.upd, if_neg e]
        | false =>
          rw [if_neg (by decide)]
          obtain ⟨g3, y, hy, g4⟩ := g2 hok
          refine ⟨_, rfl, fun h => (by cases h), fun _ => ⟨rfl, ?_⟩⟩
          cases hh : hgt N 64 m with
          | none => rfl
          | some v =>
            obtain ⟨e, he, hc⟩ := hgt_child N hz (d := 64) (by rw [hh]; rfl)
            have h63 := hc y hy
            have := isSome_le N (d := e) (e := 64) (by omega) h63
            rw [g4] at this
            cases this
end
/-- What both sides give. -/
def faL (H : List (List Int)) (M : List Int) : Int × Bool := match hgt (nx H M) 64 (setsN M.length - 1) with
  | some v => (v, true)
  | none => (0, false)
theorem nx64 {H : List (List Int)} {M : List Int} (h6 : Six H M) : ∀ m, 0 ≤ m → m < 64 → ∀ y ∈ nx H M m, 0 ≤ y ∧ y < 64 := fun m _ _ y hy => by
  have h1 := (nx_small h6 m).1 y hy
  have h2 := setsN_le M.length h6.1.2
  omega
theorem impl_fa {H : List (List Int)} {M : List Int} (h6 : Six H M) : (implFA H M).bind (fun r => some (r.n, r.ok)) = some (faL H M) := by
  unfold implFA
  have h2 := setsN_le M.length h6.1.2
  have hs : shut (fun _ => false) + 1 ≤ 100 := by
    have := List.length_filter_le (fun x : Int => !(fun _ : Int => false) x) masks
    rw [masks_len] at this
    unfold shut
    omega
  obtain ⟨r, hr, g1, g2⟩ := dfs_ok (nx64 h6) 100 (setsN M.length - 1) (fun _ => none) (fun _ => false) (by omega) (by omega) (fun x v h => by cases h) (fun x h => by cases h) hs
  rw [hr, Option.bind_some]
  unfold faL
  cases hok : r.ok with
  | true => rw [(g1 hok).1]
  | false =>
    obtain ⟨e1, e2⟩ := g2 hok
    rw [e1, e2]

/-! the reference's list and rounds -/
theorem addL_app : ∀ (ys L : List Int), ∃ T, addL L ys = L ++ T
  | [], L => ⟨[], by rw [addL, List.append_nil]⟩
  | y :: ys, L => by
    rw [addL]
    split
    · exact addL_app ys L
    · obtain ⟨T, h⟩ := addL_app ys (L ++ [y])
      exact ⟨y :: T, by rw [h, List.append_assoc]; rfl⟩
theorem addL_mem : ∀ (ys L : List Int) (z : Int), z ∈ addL L ys ↔ z ∈ L ∨ z ∈ ys
  | [], L, z => by rw [addL]; simp
  | y :: ys, L, z => by
    rw [addL, addL_mem ys, List.mem_cons]
    by_cases h : L.contains y = true
    · rw [if_pos h]
      rw [List.contains_eq_mem] at h
      have hy := of_decide_eq_true h
      exact ⟨fun q => q.elim .inl (fun q => .inr (.inr q)), fun q => q.elim .inl (fun q => q.elim (fun e => .inl (e ▸ hy)) .inr)⟩
    · rw [if_neg h, List.mem_append, List.mem_singleton]
      exact ⟨fun q => q.elim (fun q => q.elim .inl (fun e => .inr (.inl e))) (fun q => .inr (.inr q)), fun q => q.elim (fun q => .inl (.inl q)) (fun q => q.elim (fun e => .inl (.inr e)) .inr)⟩
theorem addL_nodup : ∀ (ys L : List Int), L.Nodup → (addL L ys).Nodup
  | [], L, h => h
  | y :: ys, L, h => by
    rw [addL]
    refine addL_nodup ys _ ?_
    by_cases hc : L.contains y = true
    · rw [if_pos hc]; exact h
    · rw [if_neg hc]
      rw [List.contains_eq_mem] at hc
      have hy : y ∉ L := fun q => hc (decide_eq_true q)
      rw [List.nodup_append]
      exact ⟨h, by simp, fun a ha b hb e => by rw [List.mem_singleton] at hb; subst hb; subst e; exact hy ha⟩
theorem getD_app (L T : List Int) (j : Nat) (h : j < L.length) : (L ++ T).getD j 0 = L.getD j 0 := by
  rw [List.getD_eq_getElem?_getD, List.getElem?_append_left h, ← List.getD_eq_getElem?_getD]
theorem getD_in (L : List Int) (j : Nat) (h : j < L.length) : L.getD j 0 ∈ L := by
  have := rd_mem L j h
  rwa [rd_nat] at this
theorem in_getD {L : List Int} {m : Int} (h : m ∈ L) : ∃ j, j < L.length ∧ L.getD j 0 = m := by
  obtain ⟨j, hj, e⟩ := List.mem_iff_getElem.1 h
  exact ⟨j, hj, by rw [List.getD_eq_getElem?_getD, List.getElem?_eq_getElem hj]; exact e⟩
theorem small_len {L : List Int} (hn : L.Nodup) (hs : ∀ x ∈ L, 0 ≤ x ∧ x < 64) : L.length ≤ 64 := by
  have := Far.len_of_subset L masks hn (fun x hx => (mem_masks x).2 (hs x hx))
  rwa [masks_len] at this
theorem reach_ok {H : List (List Int)} {M : List Int} (h6 : Six H M) (P : Int → Prop) (hP : ∀ m, P m → m ≠ 0 → ∀ y ∈ nx H M m, P y) : ∀ (d : Nat) (L : List Int) (i : Nat), L.Nodup → (∀ x ∈ L, 0 ≤ x ∧ x < setsN M.length) → (∀ x ∈ L, P x) → i ≤ L.length → 65 ≤ d + i → (∀ j, j < i → L.getD j 0 ≠ 0 → ∀ y ∈ nx H M (L.getD j 0), y ∈ L) →
    ∃ L', reachF H M d L i = some L' ∧ L'.Nodup ∧ (∀ x ∈ L', 0 ≤ x ∧ x < setsN M.length) ∧ (∀ x ∈ L', P x) ∧ (∀ x ∈ L, x ∈ L') ∧ ∀ m ∈ L', m ≠ 0 → ∀ y ∈ nx H M m, y ∈ L'
  | 0, L, i, hn, hs, _, hi, hd, _ => by
    have h2 := setsN_le M.length h6.1.2
    have := small_len hn (fun x hx => by have := hs x hx; omega)
    omega
  | d + 1, L, i, hn, hs, hp, hi, hd, hc => by
    have h2 := setsN_le M.length h6.1.2
    have hlen := small_len hn (fun x hx => by have := hs x hx; omega)
    rw [reachF]
    by_cases hlt : i < L.length
    · rw [if_pos hlt, if_pos (by omega)]
      have hx := hs _ (getD_in L i hlt)
      have hpx := hp _ (getD_in L i hlt)
      by_cases hx0 : L.getD i 0 > 0
      · rw [if_pos hx0]
        obtain ⟨T, hT⟩ := addL_app (nx H M (L.getD i 0)) L
        have hmem := addL_mem (nx H M (L.getD i 0)) L
        have hl1 : L.length ≤ (addL L (nx H M (L.getD i 0))).length := by rw [hT, List.length_append]; omega
        obtain ⟨L', g1, g2, g3, g4, g5, g6⟩ := reach_ok h6 P hP d (addL L (nx H M (L.getD i 0))) (i + 1) (addL_nodup _ _ hn)
          (fun x hx => ((hmem x).1 hx).elim (hs x) (fun q => (nx_small h6 _).1 x q)) (fun x hx => ((hmem x).1 hx).elim (hp x) (fun q => hP _ hpx (by omega) x q)) (by omega) (by omega) (fun j hj h0 y hy => by
            have e : (addL L (nx H M (L.getD i 0))).getD j 0 = L.getD j 0 := by rw [hT]; exact getD_app L T j (by omega)
            rw [e] at h0 hy
            refine (hmem y).2 ?_
            by_cases q : j = i
            · subst q; exact .inr hy
            · exact .inl (hc j (by omega) h0 y hy))
        exact ⟨L', g1, g2, g3, g4, fun x hx => g5 x ((hmem x).2 (.inl hx)), g6⟩
      · rw [if_neg hx0]
        refine reach_ok h6 P hP d L (i + 1) hn hs hp (by omega) (by omega) (fun j hj h0 y hy => ?_)
        by_cases q : j = i
        · subst q; exact absurd (show L.getD j 0 = 0 by omega) h0
        · exact hc j (by omega) h0 y hy
    · rw [if_neg hlt]
      refine ⟨L, rfl, hn, hs, hp, fun _ h => h, fun m hm h0 y hy => ?_⟩
      obtain ⟨j, hj, rfl⟩ := in_getD hm
      exact hc j (by omega) h0 y hy
/-- One more than the greatest value behind some sets. -/
def mx (f : Int → Int) : List Int → Int
  | [] => 0
  | y :: l => max (f y + 1) (mx f l)
/-- What stands at a set. -/
def fv (F : List Int) (m : Int) : Int := F.getD m.toNat 0
theorem mx_nn (f : Int → Int) : ∀ l, 0 ≤ mx f l
  | [] => Int.le_refl _
  | y :: l => by have := mx_nn f l; rw [mx]; omega
theorem mx_le {f g : Int → Int} : ∀ l, (∀ y ∈ l, f y ≤ g y) → mx f l ≤ mx g l
  | [], _ => Int.le_refl _
  | y :: l, h => by
    have h1 := h y (List.mem_cons_self ..)
    have h2 := mx_le l (fun z hz => h z (List.mem_cons_of_mem _ hz))
    rw [mx, mx]
    omega
theorem mx_bd {f : Int → Int} {U : Int} (hU : 0 ≤ U) : ∀ l, (∀ y ∈ l, f y ≤ U) → mx f l ≤ U + 1
  | [], _ => by rw [mx]; omega
  | y :: l, h => by
    have h1 := h y (List.mem_cons_self ..)
    have h2 := mx_bd hU l (fun z hz => h z (List.mem_cons_of_mem _ hz))
    rw [mx]
    omega
theorem mx_ge {f : Int → Int} : ∀ (l : List Int) (y : Int), y ∈ l → f y + 1 ≤ mx f l
  | [], y, h => by cases h
  | x :: l, y, h => by
    rw [mx]
    rcases List.mem_cons.1 h with rfl | h
    · omega
    · have := mx_ge (f := f) l y h
      omega
theorem mx_hlist {f : Int → Int} {g : Int → Option Int} : ∀ (l : List Int) (v : Int), (∀ y ∈ l, ∀ a, g y = some a → f y = a) → hlist g l = some v → mx f l = v
  | [], v, _, h => Option.some.inj h
  | y :: l, v, hf, h => by
    obtain ⟨a, b, ha, hb, rfl⟩ := hlist_some h
    rw [mx, hf y (List.mem_cons_self ..) a ha, mx_hlist l b (fun z hz => hf z (List.mem_cons_of_mem _ hz)) hb]
theorem best_is (F : List Int) {U : Int} (hU : U ≤ 1000000) : ∀ (l : List Int) (b : Int), 0 ≤ b → (∀ y ∈ l, 0 ≤ fv F y ∧ fv F y ≤ U) → bestF F l b = max b (mx (fv F) l)
  | [], b, hb, _ => by rw [bestF, mx]; omega
  | y :: l, b, hb, h => by
    have hy := h y (List.mem_cons_self ..)
    have hw : wrap64 (1 + F.getD y.toNat 0) = fv F y + 1 := by
      show wrap64 (1 + fv F y) = fv F y + 1
      rw [wid (by omega) (by omega)]
      omega
    rw [bestF, hw, mx]
    by_cases c : b > fv F y + 1
    · rw [if_pos c, best_is F hU l b hb (fun z hz => h z (List.mem_cons_of_mem _ hz))]
      omega
    · rw [if_neg c, best_is F hU l _ (by omega) (fun z hz => h z (List.mem_cons_of_mem _ hz))]
      omega
theorem set_self (F : List Int) (i : Nat) (hi : i < F.length) (v : Int) (h : v = F.getD i 0) : F.set i v = F := by
  refine ext_getD (by rw [List.length_set]) (fun j hj => ?_)
  rw [getD_set F i j v hi]
  split
  · rename_i e; subst e; exact h
  · rfl
theorem pass_true (H : List (List Int)) (M : List Int) (L : List Int) : ∀ (d i : Nat) (F : List Int), (passF H M L d i F true).2 = true
  | 0, _, _ => rfl
  | d + 1, i, F => by
    rw [passF]
    split
    · exact pass_true H M L d (i + 1) F
    · rw [Bool.true_or]
      exact pass_true H M L d (i + 1) _
section
variable {H : List (List Int)} {M : List Int} (h6 : Six H M) {L : List Int} (hs : ∀ x ∈ L, 0 ≤ x ∧ x < setsN M.length) (hc : ∀ m ∈ L, m ≠ 0 → ∀ y ∈ nx H M m, y ∈ L)
/-- What holds of `far` at all times. -/
structure Inv (H : List (List Int)) (M : List Int) (L F : List Int) (U : Int) : Prop where
  len : (F.length : Int) = setsN M.length
  bd : ∀ m ∈ L, 0 ≤ fv F m ∧ fv F m ≤ U
  sub : ∀ m ∈ L, m ≠ 0 → fv F m ≤ mx (fv F) (nx H M m)
  zero : fv F 0 = 0
/-- Nothing would grow. -/
def Fix (H : List (List Int)) (M : List Int) (L F : List Int) : Prop := ∀ m ∈ L, m ≠ 0 → mx (fv F) (nx H M m) = fv F m
/-- Heights of r or less stand there. -/
def Exr (H : List (List Int)) (M : List Int) (L F : List Int) (r : Nat) : Prop := ∀ m ∈ L, ∀ v, hgt (nx H M) r m = some v → fv F m = v
theorem Inv.more {F : List Int} {U U' : Int} (h : Inv H M L F U) (hu : U ≤ U') : Inv H M L F U' := ⟨h.len, fun m hm => by have := h.bd m hm; omega, h.sub, h.zero⟩
theorem fv_set {F : List Int} {U : Int} (h : Inv H M L F U) {m : Int} (h0 : 0 ≤ m) (h1 : m < setsN M.length) (v : Int) {x : Int} (hx : 0 ≤ x) : fv (F.set m.toNat v) x = if x = m then v else fv F x := by
  have := h.len
  unfold fv
  rw [getD_set F m.toNat x.toNat v (by omega)]
  by_cases e : x = m
  · subst e; rw [if_pos rfl, if_pos rfl]
  · rw [if_neg e, if_neg (by omega)]
include hc
theorem ex_best {F : List Int} {r : Nat} (h : Exr H M L F r) {m : Int} (hm : m ∈ L) (hm0 : m ≠ 0) {v : Int} (hv : hgt (nx H M) (r + 1) m = some v) : mx (fv F) (nx H M m) = v := by
  rw [hgt, if_neg hm0] at hv
  exact mx_hlist _ _ (fun y hy a ha => h y (hc m hm hm0 y hy) a ha) hv
theorem fix_is {F : List Int} (hI : fv F 0 = 0) (hf : Fix H M L F) : ∀ (e : Nat) (m : Int), m ∈ L → ∀ v, hgt (nx H M) e m = some v → fv F m = v := by
  intro e
  induction e with
  | zero =>
    intro m hm v hv
    rw [hgt] at hv
    split at hv
    · rename_i q; subst q; rw [hI]; exact Option.some.inj hv
    · cases hv
  | succ e ih =>
    intro m hm v hv
    by_cases q : m = 0
    · subst q; rw [hgt_zero] at hv; rw [hI]; exact Option.some.inj hv
    · rw [← hf m hm q]
      rw [hgt, if_neg q] at hv
      exact mx_hlist _ _ (fun y hy a ha => ih y (hc m hm q y hy) a ha) hv
theorem fix_fin {F : List Int} {U : Int} (hI : Inv H M L F U) (hf : Fix H M L F) : ∀ (k : Nat) (m : Int), m ∈ L → fv F m ≤ (k : Int) → (hgt (nx H M) k m).isSome = true := by
  intro k
  induction k with
  | zero =>
    intro m hm hk
    by_cases q : m = 0
    · subst q; rw [hgt_zero]; rfl
    · exfalso
      have h1 := hf m hm q
      have h2 : mvd m ((M.length : Int) - 1) M 0 0 ∈ nx H M m := List.mem_cons_self ..
      have h3 := mx_ge (f := fv F) _ _ h2
      have h4 := (hI.bd _ (hc m hm q _ h2)).1
      omega
  | succ k ih =>
    intro m hm hk
    by_cases q : m = 0
    · subst q; rw [hgt_zero]; rfl
    · refine hgt_up _ (fun y hy => ih y (hc m hm q y hy) ?_)
      have h1 := hf m hm q
      have h3 := mx_ge (f := fv F) _ _ hy
      omega
theorem ex_fix {F : List Int} {r : Nat} (hr : Exr H M L F r) (hall : ∀ m ∈ L, (hgt (nx H M) r m).isSome = true) : Fix H M L F := by
  intro m hm q
  obtain ⟨v, hv⟩ := Option.isSome_iff_exists.1 (hall m hm)
  rw [hr m hm v hv]
  exact ex_best hc hr hm q (hgt_step _ _ _ _ hv)
include hs
theorem ex_step {F : List Int} {U : Int} (hI : Inv H M L F U) {r : Nat} (h : Exr H M L F r) {m : Int} (hm : m ∈ L) (hm0 : m ≠ 0) : Exr H M L (F.set m.toNat (mx (fv F) (nx H M m))) r := by
  intro x hx v hv
  have hb := hs m hm
  rw [fv_set hI hb.1 hb.2 _ (hs x hx).1]
  split
  · rename_i e
    subst e
    exact ex_best hc h hm hm0 (hgt_step _ _ _ _ hv)
  · exact h x hx v hv
include h6
theorem inv_step {F : List Int} {U : Int} (hU0 : 0 ≤ U) (h : Inv H M L F U) {m : Int} (hm : m ∈ L) (hm0 : m ≠ 0) : Inv H M L (F.set m.toNat (mx (fv F) (nx H M m))) (U + 1) := by
  have hb := hs m hm
  have hB := mx_bd hU0 (nx H M m) (fun y hy => (h.bd y (hc m hm hm0 y hy)).2)
  have hB0 := mx_nn (fv F) (nx H M m)
  have hsub := h.sub m hm hm0
  have hf : ∀ x, 0 ≤ x → fv (F.set m.toNat (mx (fv F) (nx H M m))) x = if x = m then mx (fv F) (nx H M m) else fv F x := fun x hx => fv_set h hb.1 hb.2 _ hx
  have hle : ∀ y, 0 ≤ y → fv F y ≤ fv (F.set m.toNat (mx (fv F) (nx H M m))) y := fun y hy => by
    rw [hf y hy]
    split
    · rename_i e; subst e; exact hsub
    · exact Int.le_refl _
  refine ⟨by rw [List.length_set]; exact h.len, fun x hx => ?_, fun x hx hx0 => ?_, ?_⟩
  · rw [hf x (hs x hx).1]
    have := h.bd x hx
    split <;> omega
  · have h1 := mx_le (nx H M x) (fun y hy => hle y ((nx_small h6 x).1 y hy).1)
    rw [hf x (hs x hx).1]
    split
    · rename_i e; subst e; exact h1
    · have := h.sub x hx hx0; omega
  · rw [hf 0 (Int.le_refl _), if_neg (fun e => hm0 e.symm)]
    exact h.zero
theorem pass_ok : ∀ (d i : Nat) (F : List Int) (U : Int) (g : Bool), i + d = L.length → 0 ≤ U → U + (d : Int) ≤ 100000 → Inv H M L F U →
    ∃ F' g', passF H M L d i F g = (F', g') ∧ Inv H M L F' (U + (d : Int)) ∧ (g' = false → F' = F ∧ ∀ j, i ≤ j → j < L.length → L.getD j 0 ≠ 0 → mx (fv F) (nx H M (L.getD j 0)) = fv F (L.getD j 0)) ∧
      (∀ r, Exr H M L F r → (∀ j, j < i → ∀ v, hgt (nx H M) (r + 1) (L.getD j 0) = some v → fv F (L.getD j 0) = v) → ∀ j, j < L.length → ∀ v, hgt (nx H M) (r + 1) (L.getD j 0) = some v → fv F' (L.getD j 0) = v) ∧ (Fix H M L F → g' = g)
  | 0, i, F, U, g, hi, h0, hU, hI => by
    refine ⟨F, g, rfl, by simpa using hI, fun h => ⟨rfl, fun j h1 h2 => by omega⟩, fun r _ h j hj => h j (by omega), fun _ => rfl⟩
  | d + 1, i, F, U, g, hi, h0, hU, hI => by
    have hm := getD_in L i (by omega)
    rw [passF]
    by_cases hz : L.getD i 0 = 0
    · rw [if_pos hz]
      obtain ⟨F', g', e, a, b, c, f⟩ := pass_ok d (i + 1) F U g (by omega) h0 (by omega) hI
      refine ⟨F', g', e, a.more (by omega), fun h => ?_, fun r hr hp => ?_, f⟩
      · obtain ⟨b1, b2⟩ := b h
        refine ⟨b1, fun j h1 h2 h3 => ?_⟩
        by_cases q : j = i
        · subst q; exact absurd hz h3
        · exact b2 j (by omega) h2 h3
      · refine c r hr (fun j hj v hv => ?_)
        by_cases q : j = i
        · subst q
          rw [hz, hgt_zero] at hv
          rw [hz, hI.zero]
          exact Option.some.inj hv
        · exact hp j (by omega) v hv
    · rw [if_neg hz]
      have hb := hs _ hm
      have hbest : bestF F (nx H M (L.getD i 0)) 0 = mx (fv F) (nx H M (L.getD i 0)) := by
        rw [best_is F (U := U) (by omega) _ _ (Int.le_refl _) (fun y hy => hI.bd y (hc _ hm hz y hy))]
        have := mx_nn (fv F) (nx H M (L.getD i 0))
        omega
      rw [hbest]
      have hI' := inv_step h6 hs hc h0 hI hm hz
      obtain ⟨F', g', e, a, b, c, f⟩ := pass_ok d (i + 1) _ (U + 1) (g || decide (mx (fv F) (nx H M (L.getD i 0)) > F.getD (L.getD i 0).toNat 0)) (by omega) (by omega) (by omega) hI'
      have hlen := hI.len
      have hsame : mx (fv F) (nx H M (L.getD i 0)) = fv F (L.getD i 0) → F.set (L.getD i 0).toNat (mx (fv F) (nx H M (L.getD i 0))) = F := fun q => set_self F _ (by omega) _ q
      refine ⟨F', g', e, a.more (by omega), fun h => ?_, fun r hr hp => ?_, fun hfix => ?_⟩
      · obtain ⟨b1, b2⟩ := b h
        by_cases q : mx (fv F) (nx H M (L.getD i 0)) = fv F (L.getD i 0)
        · rw [hsame q] at b1 b2
          refine ⟨b1, fun j h1 h2 h3 => ?_⟩
          by_cases q2 : j = i
          · subst q2; exact q
          · exact b2 j (by omega) h2 h3
        · exfalso
          -- the flag would be set
          have hgr : mx (fv F) (nx H M (L.getD i 0)) > F.getD (L.getD i 0).toNat 0 := by
            have := hI.sub _ hm hz
            show fv F (L.getD i 0) < _
            omega
          rw [decide_eq_true hgr, Bool.or_true] at e
          have := pass_true H M L d (i + 1) (F.set (L.getD i 0).toNat (mx (fv F) (nx H M (L.getD i 0))))
          rw [e, h] at this
          cases this
      · refine c r (ex_step hs hc hI hr hm hz) (fun j hj v hv => ?_)
        rw [fv_set hI hb.1 hb.2 _ (hs _ (getD_in L j (by omega))).1]
        by_cases q : j = i
        · subst q
          rw [if_pos rfl]
          exact ex_best hc hr hm hz hv
        · split
          · rename_i e2
            rw [e2] at hv
            exact ex_best hc hr hm hz hv
          · exact hp j (by omega) v hv
      · have q := hfix _ hm hz
        rw [hsame q] at f
        rw [f hfix]
        have : ¬ mx (fv F) (nx H M (L.getD i 0)) > F.getD (L.getD i 0).toNat 0 := by
          show ¬ fv F (L.getD i 0) < _
          omega
        rw [decide_eq_false this, Bool.or_false]
theorem rounds_fin {full h : Int} (hfull : full ∈ L) (hh : hgt (nx H M) 64 full = some h) (hall : ∀ m ∈ L, (hgt (nx H M) L.length m).isSome = true) (hlen : L.length ≤ 64) : ∀ (d r : Nat) (F : List Int) (U : Int), 0 ≤ U → U + (d : Int) * 64 ≤ 100000 → Inv H M L F U → Exr H M L F r → r ≤ L.length → L.length + 1 ≤ r + d → roundsF H M L full d F = (h, true)
  | 0, r, F, U, _, _, _, _, h1, h2 => by omega
  | d + 1, r, F, U, h0, hU, hI, hr, h1, h2 => by
    rw [roundsF]
    obtain ⟨F', g', e, a, b, c, f⟩ := pass_ok h6 hs hc L.length 0 F U false (by omega) h0 (by omega) hI
    rw [e]
    cases g' with
    | false =>
      obtain ⟨b1, b2⟩ := b rfl
      subst b1
      have hfix : Fix H M L F' := fun m hm q => by
        obtain ⟨j, hj, rfl⟩ := in_getD hm
        exact b2 j (Nat.zero_le _) hj q
      have := fix_is hc hI.zero hfix 64 full hfull h hh
      show (F'.getD full.toNat 0, true) = (h, true)
      rw [show F'.getD full.toNat 0 = fv F' full from rfl, this]
    | true =>
      show roundsF H M L full d F' = (h, true)
      have hlt : r < L.length := by
        apply Classical.byContradiction
        intro q
        have hre : r = L.length := by omega
        subst hre
        have := f (ex_fix hc hr hall)
        cases this
      have hr' : Exr H M L F' (r + 1) := fun m hm v hv => by
        obtain ⟨j, hj, rfl⟩ := in_getD hm
        exact c r hr (fun j hj => absurd hj (Nat.not_lt_zero _)) j hj v hv
      refine rounds_fin hfull hh hall hlen d (r + 1) F' (U + 64) (by omega) ?_ (a.more (by omega)) hr' (by omega) (by omega)
      have : ((d + 1 : Nat) : Int) * 64 = (d : Int) * 64 + 64 := by omega
      omega
theorem rounds_none {full : Int} (hfull : full ∈ L) (hb : 0 ≤ full ∧ full < 64) (hh : hgt (nx H M) 64 full = none) (hlen : L.length ≤ 64) : ∀ (d : Nat) (F : List Int) (U : Int), 0 ≤ U → U + (d : Int) * 64 ≤ 100000 → Inv H M L F U → roundsF H M L full d F = (0, false)
  | 0, _, _, _, _, _ => rfl
  | d + 1, F, U, h0, hU, hI => by
    rw [roundsF]
    obtain ⟨F', g', e, a, b, c, f⟩ := pass_ok h6 hs hc L.length 0 F U false (by omega) h0 (by omega) hI
    rw [e]
    cases g' with
    | false =>
      exfalso
      obtain ⟨b1, b2⟩ := b rfl
      subst b1
      have hfix : Fix H M L F' := fun m hm q => by
        obtain ⟨j, hj, rfl⟩ := in_getD hm
        exact b2 j (Nat.zero_le _) hj q
      have h1 := fix_fin hc hI hfix (fv F' full).toNat full hfull (by omega)
      have h2 := hgt64 (nx64 h6) hb.1 hb.2 h1
      rw [hh] at h2
      cases h2
    | true =>
      show roundsF H M L full d F' = (0, false)
      refine rounds_none hfull hb hh hlen d F' (U + 64) (by omega) ?_ (a.more (by omega))
      have : ((d + 1 : Nat) : Int) * 64 = (d : Int) * 64 + 64 := by omega
      omega
end
theorem spec_fa {H : List (List Int)} {M : List Int} (h6 : Six H M) : specFA H M = some (faL H M) := by
  unfold specFA
  have h2 := setsN_le M.length h6.1.2
  have hs1 : ∀ x ∈ [setsN M.length - 1], 0 ≤ x ∧ x < setsN M.length := fun x hx => by rw [List.mem_singleton] at hx; omega
  obtain ⟨L, e, g1, g2, g3, g4, g5⟩ := reach_ok h6 (fun m => (hgt (nx H M) 64 (setsN M.length - 1)).isSome = true → (hgt (nx H M) 64 m).isSome = true)
    (fun m hm h0 y hy hf => by
      obtain ⟨q, hq, hch⟩ := hgt_child _ h0 (hm hf)
      exact isSome_le _ (by omega) (hch y hy)) 100 [setsN M.length - 1] 0 (by simp) hs1 (fun x hx hf => by rw [List.mem_singleton] at hx; subst hx; exact hf) (Nat.zero_le _) (by omega) (fun j hj => absurd hj (Nat.not_lt_zero _))
  have hfull := g4 _ (List.mem_singleton.2 rfl)
  have hlen := small_len g1 (fun x hx => by have := g2 x hx; omega)
  rw [e, Option.bind_some, if_pos (by omega)]
  have hrep : ∀ m, fv (List.replicate (setsN M.length).toNat 0) m = 0 := fun m => by
    unfold fv
    rw [List.getD_eq_getElem?_getD, List.getElem?_replicate]
    split <;> rfl
  have hI : Inv H M L (List.replicate (setsN M.length).toNat 0) 0 := ⟨by rw [List.length_replicate]; omega, fun m _ => by rw [hrep]; omega, fun m _ _ => by rw [hrep]; exact mx_nn _ _, hrep 0⟩
  congr 1
  unfold faL
  cases hh : hgt (nx H M) 64 (setsN M.length - 1) with
  | some v =>
    refine rounds_fin h6 g2 g5 hfull hh (fun m hm => hgt_list _ L g5 hm (g3 m hm (by rw [hh]; rfl))) hlen (L.length + 2) 0 _ 0 (Int.le_refl _) (by omega) hI (fun m hm v hv => ?_) (Nat.zero_le _) (by omega)
    rw [hgt] at hv
    split at hv
    · rw [hrep]; exact Option.some.inj hv
    · cases hv
  | none => exact rounds_none h6 g2 g5 hfull (by omega) hh hlen (L.length + 2) _ 0 (Int.le_refl _) (by omega) hI

theorem ev_and {α β : Type} {g : Nat → Option α} {f : Nat → Option β} {a : α} {b : β} (h : Ev g a) (k : Ev f b) : ∃ K, ∀ n, K ≤ n → g n = some a ∧ f n = some b := by
  obtain ⟨K, h⟩ := h
  obtain ⟨K2, k⟩ := k
  exact ⟨max K K2, fun n hn => ⟨h n (Nat.le_trans (Nat.le_max_left ..) hn), k n (Nat.le_trans (Nat.le_max_right ..) hn)⟩⟩
theorem rdL_app (A : List (List Int)) (x : List Int) (B : List (List Int)) : (A ++ x :: B).getD A.length [] = x := by
  rw [List.getD_eq_getElem?_getD, List.getElem?_append_right (Nat.le_refl _), Nat.sub_self]
  rfl
theorem setL_app (A : List (List Int)) (x y : List Int) (B : List (List Int)) : (A ++ x :: B).set A.length y = A ++ y :: B := by
  rw [List.set_append_right _ _ (Nat.le_refl _), Nat.sub_self]
  rfl

/-! how many cells a row of rows has, counted down: what is counted to its end is not long -/
theorem szSS_l (X : List (List Int)) (hX : X.length ≤ 1048576) (d : Nat) : ∀ (i : Nat) (a : Int), X.length - i = d → i ≤ X.length → 0 ≤ a → a ≤ 1048576 → (∀ x ∈ X.drop i, x.length ≤ 9223372036854775807) →
    ∃ s : Int, Ev (fun k => laws_szInt64SS.l0 k X a (i : Int)) s ∧ (s < 0 ∨ (0 ≤ s ∧ s ≤ 1048576 ∧ ∀ x ∈ X.drop i, x.length ≤ 1048576)) := by
  induction d with
  | zero =>
    intro i a hd hi h0 h1 hx
    refine ⟨a, ev_ret (fun k => by rw [laws_szInt64SS.l0, if_neg (by omega)]), .inr ⟨h0, h1, ?_⟩⟩
    rw [List.drop_eq_nil_of_le (by omega)]
    intro x hx; cases hx
  | succ d ih =>
    intro i a hd hi h0 h1 hx
    have hlt : i < X.length := by omega
    rw [List.drop_eq_getElem_cons hlt] at hx ⊢
    have hrow : rd_L1 X (i : Int) = X[i] := by unfold rd_L1; rw [Int.toNat_natCast, List.getD_eq_getElem?_getD, List.getElem?_eq_getElem hlt]; rfl
    have hl := hx _ (List.mem_cons_self ..)
    have hw : wrap64 (a - (X[i].length : Int)) = a - (X[i].length : Int) := wid (by omega) (by omega)
    by_cases h : a - (X[i].length : Int) < 0
    · refine ⟨-1, ev_ret (fun k => ?_), .inl (by omega)⟩
      rw [laws_szInt64SS.l0, if_pos (by omega), if_pos (by omega), hrow]
      unfold laws_szInt64S.f
      rw [hw, if_pos h]
      rfl
    · obtain ⟨s, hs, hh⟩ := ih (i + 1) (a - (X[i].length : Int)) (by omega) (by omega) (by omega) (by omega) (fun x h' => hx x (List.mem_cons_of_mem _ h'))
      refine ⟨s, Ev.step (fun k => ?_) hs, ?_⟩
      · rw [laws_szInt64SS.l0, if_pos (by omega), if_pos (by omega), hrow]
        unfold laws_szInt64S.f
        rw [hw, if_neg h, Option.bind_some, if_neg h, wid (x := (i : Int) + 1) (by omega) (by omega)]
        rfl
      · rcases hh with hh | ⟨hh, hh2, hz⟩
        · exact .inl hh
        · refine .inr ⟨hh, hh2, fun x h' => ?_⟩
          rcases List.mem_cons.1 h' with h' | h'
          · subst h'; omega
          · exact hz x h'
theorem szSS (X : List (List Int)) (hX : X.length ≤ 9223372036854775807) (hx : ∀ x ∈ X, x.length ≤ 9223372036854775807) :
    ∃ s : Int, Ev (fun k => laws_szInt64SS.f k X 1048576) s ∧ (s < 0 ∨ (0 ≤ s ∧ s ≤ 1048576 ∧ X.length ≤ 1048576 ∧ ∀ x ∈ X, x.length ≤ 1048576)) := by
  have hw : wrap64 (1048576 - (X.length : Int)) = 1048576 - (X.length : Int) := wid (by omega) (by omega)
  by_cases h : 1048576 - (X.length : Int) < 0
  · refine ⟨-1, ⟨0, fun k _ => ?_⟩, .inl (by omega)⟩
    unfold laws_szInt64SS.f
    simp only [hw, if_pos h]
  · obtain ⟨s, hs, hh⟩ := szSS_l X (by omega) X.length 0 (1048576 - (X.length : Int)) (by omega) (by omega) (by omega) (by omega) (by simpa using hx)
    refine ⟨s, ?_, ?_⟩
    · unfold laws_szInt64SS.f
      simp only [hw, if_neg h]
      exact hs
    · rcases hh with hh | ⟨hh, hh2, hz⟩
      · exact .inl hh
      · exact .inr ⟨hh, hh2, by omega, by simpa using hz⟩

theorem toInts_l (l : List Int) (hl : l.length ≤ 140737488355328) (d : Nat) : ∀ (i : Nat) (xs : List Int), xs.length = l.length → (∀ j, j < i → xs.getD j 0 = l.getD j 0) → l.length - i = d → i ≤ l.length →
    Ev (fun k => laws_toInt64S.l0 k l xs (i : Int)) l := by
  induction d with
  | zero =>
    intro i xs hx h hd hi
    have e : xs = l := ext_getD hx (fun j hj => h j (by omega))
    subst e
    exact ev_ret (fun k => by rw [laws_toInt64S.l0, if_neg (by omega)])
  | succ d ih =>
    intro i xs hx h hd hi
    refine Ev.step (fun k => ?_) (ih (i + 1) (xs.set i (rd l (i : Int))) (by rw [List.length_set, hx]) (fun j hj => ?_) (by omega) (by omega))
    · rw [laws_toInt64S.l0, if_pos (by omega), if_pos (by omega), if_pos (by omega), Int.toNat_natCast, wid (x := (i : Int) + 1) (by omega) (by omega), show ((i + 1 : Nat) : Int) = (i : Int) + 1 by omega]
    · rw [getD_set _ _ _ _ (by omega)]
      by_cases e : i = j
      · subst e; rw [if_pos rfl, rd_nat]
      · rw [if_neg e]; exact h j (by omega)
theorem toInts (l : List Int) (hl : l.length ≤ 35184372088832) : Ev (fun k => laws_toInt64S.f k l) l := by
  unfold laws_toInt64S.f
  simp only [if_pos (show (0 : Int) ≤ (l.length : Int) by omega), Int.toNat_natCast, if_pos hl]
  exact toInts_l l (by omega) l.length 0 _ (by rw [List.length_replicate]) (fun j hj => by omega) (by omega) (by omega)

/-- A row of rows, copied. -/
theorem toSS (X : List (List Int)) (hX : X.length ≤ 100000000) (hr : ∀ x ∈ X, x.length ≤ 100000000) : Ev (fun k => laws_toInt64SS.f k X) X := by
  have h : ∀ (Y : List (List Int)), (∀ x ∈ Y, x.length ≤ 100000000) → ∃ K, ∀ k, K ≤ k → (Y.all fun x => decide (laws_toInt64S.f k x = some x)) = true := by
    intro Y
    induction Y with
    | nil => intro _; exact ⟨0, fun _ _ => rfl⟩
    | cons y Y ih =>
      intro hy
      obtain ⟨K, h1⟩ := ih (fun x hx => hy x (List.mem_cons_of_mem _ hx))
      obtain ⟨K2, h2⟩ := toInts y (by have := hy y (List.mem_cons_self ..); omega)
      refine ⟨K + K2, fun k hk => ?_⟩
      rw [List.all_cons, h1 k (by omega), decide_eq_true (h2 k (by omega)), Bool.and_true]
  obtain ⟨K, hK⟩ := h X hr
  exact ⟨K, fun k hk => by unfold laws_toInt64SS.f; exact if_pos ⟨hX, hK k hk⟩⟩

/-- A list is equal to itself. -/
theorem eqs_l (a : List Int) (ha : a.length ≤ 140737488355328) (d : Nat) : ∀ (i : Int), 0 ≤ i → (a.length : Int) - i = d → Ev (fun k => laws_eqInt64S.l0 k a a i) true := by
  induction d with
  | zero => intro i h0 hd; exact ev_ret (fun k => by rw [laws_eqInt64S.l0, if_neg (by omega)])
  | succ d ih =>
    intro i h0 hd
    refine Ev.step (fun k => ?_) (ih (i + 1) (by omega) (by omega))
    rw [laws_eqInt64S.l0, if_pos (by omega), if_pos h0, if_pos (by omega), if_pos rfl, wid (x := i + 1) (by omega) (by omega)]
theorem eqs (a : List Int) (ha : a.length ≤ 140737488355328) : Ev (fun k => laws_eqInt64S.f k a a) true := by
  unfold laws_eqInt64S.f
  simp only [if_true]
  exact eqs_l a ha a.length 0 (by omega) (by omega)

theorem eqsSS_l (X : List (List Int)) (hX : X.length ≤ 1000000000) (hr : ∀ x ∈ X, x.length ≤ 1000000000) : ∀ (B A : List (List Int)), X = A ++ B → Ev (fun k => laws_eqInt64SS.l0 k X X (A.length : Int)) true
  | [], A, e => by
    refine ev_ret (fun k => ?_)
    rw [laws_eqInt64SS.l0, if_neg (by rw [e]; simp)]
  | x :: B, A, e => by
    have hl : X.length = A.length + (B.length + 1) := by rw [e]; simp
    have hx : rd_L1 X (A.length : Int) = x := by unfold rd_L1; rw [Int.toNat_natCast, e]; exact rdL_app A x B
    have ih := eqsSS_l X hX hr B (A ++ [x]) (by rw [e]; simp)
    rw [List.length_append, List.length_singleton] at ih
    refine Ev.step (fun k => ?_) (Ev.bind (f := fun k t => if t = true then laws_eqInt64SS.l0 k X X ((A.length + 1 : Nat) : Int) else some false) (eqs x (by have := hr x (by rw [e]; simp); omega)) (by simpa using ih))
    rw [laws_eqInt64SS.l0, if_pos (by omega), if_pos (by omega), if_pos (by omega), hx, wid (x := (A.length : Int) + 1) (by omega) (by omega), show ((A.length + 1 : Nat) : Int) = (A.length : Int) + 1 by omega]
theorem eqsSS (X : List (List Int)) (hX : X.length ≤ 1000000000) (hr : ∀ x ∈ X, x.length ≤ 1000000000) : Ev (fun k => laws_eqInt64SS.f k X X) true := by
  unfold laws_eqInt64SS.f
  simp only [if_true]
  exact eqsSS_l X hX hr X [] rfl

/-- The size of a policy as the laws count it. -/
theorem szP (l0 : List (List Int)) (l1 : List Int) (hl0 : l0.length ≤ 9223372036854775807) (hx0 : ∀ x ∈ l0, x.length ≤ 9223372036854775807) (hl1 : l1.length ≤ 9223372036854775807) :
    ∃ z : Int, Ev (fun k => laws_szPolicy.f k l0 l1 1048576) z ∧ (z < 0 ∨ (0 ≤ z ∧ l1.length ≤ 1048576 ∧ l0.length ≤ 1048576 ∧ ∀ x ∈ l0, x.length ≤ 1048576)) := by
  unfold laws_szPolicy.f
  obtain ⟨s, es, hh⟩ := szSS l0 hl0 hx0
  rcases hh with hh | ⟨hh, hh2, hX, hx⟩
  · exact ⟨-1, Ev.bind es (ev_all fun k => by rw [if_pos hh]), .inl (by omega)⟩
  have ez : ∃ z : Int, laws_szInt64S.f l1 s = some z ∧ (z < 0 ∨ (0 ≤ z ∧ l1.length ≤ 1048576)) := by
    unfold laws_szInt64S.f
    rw [wid (x := s - (l1.length : Int)) (by omega) (by omega)]
    by_cases q : s - (l1.length : Int) < 0
    · exact ⟨-1, by rw [if_pos q], .inl (by omega)⟩
    · exact ⟨_, by rw [if_neg q], .inr ⟨by omega, by omega⟩⟩
  obtain ⟨z, ez, hz⟩ := ez
  rcases hz with hz | ⟨hz, h1⟩
  · exact ⟨-1, Ev.bind es (ev_all fun k => by rw [if_neg (by omega), ez, Option.bind_some, if_pos hz]), .inl (by omega)⟩
  · exact ⟨z, Ev.bind es (ev_all fun k => by rw [if_neg (by omega), ez, Option.bind_some, if_neg (by omega)]), .inr ⟨hz, h1, hX, hx⟩⟩
theorem toP (l0 : List (List Int)) (l1 : List Int) (hX : l0.length ≤ 1048576) (hx : ∀ x ∈ l0, x.length ≤ 1048576) (h1 : l1.length ≤ 1048576) : Ev (fun k => laws_toPolicy.f k l0 l1) (l0, l1) := by
  unfold laws_toPolicy.f
  exact Ev.bind (toSS l0 (by omega) (fun x h => by have := hx x h; omega)) (Ev.bind (toInts l1 (by omega)) (Ev.now _))
theorem eqP (l0 : List (List Int)) (l1 : List Int) (hX : l0.length ≤ 1048576) (hx : ∀ x ∈ l0, x.length ≤ 1048576) (h1 : l1.length ≤ 1048576) : Ev (fun k => laws_eqPolicy.f k l0 l1 l0 l1) true := by
  unfold laws_eqPolicy.f
  refine Ev.bind (eqsSS l0 (by omega) (fun x h => by have := hx x h; omega)) ?_
  simp only [if_true]
  refine Ev.bind (eqs l1 (by omega)) ?_
  simp only [if_true]
  exact Ev.now _

/-! an order, told in two ways -/
theorem asc_of (s : List Int) : ∀ (a : Int), s.Pairwise (· < ·) → (∀ y ∈ s, a ≤ y ∧ y < a + (s.length : Int)) → s = (List.range s.length).map (fun i : Nat => a + (i : Int)) := by
  induction s with
  | nil => intro a _ _; rfl
  | cons y t ih =>
    intro a hs hb
    rw [List.pairwise_cons] at hs
    have hy := hb y (List.mem_cons_self ..)
    rw [List.length_cons] at hy hb ⊢
    have ht := ih (a + 1) hs.2 (fun z hz => by
      have h1 := hs.1 z hz
      have h2 := hb z (List.mem_cons_of_mem _ hz)
      omega)
    have hya : y = a := by
      cases t with
      | nil => simp only [List.length_nil] at hy; omega
      | cons z t =>
        have h1 := hs.1 z (List.mem_cons_self ..)
        rw [List.length_cons, List.range_succ_eq_map, List.map_cons] at ht
        have h2 : z = a + 1 + ((0 : Nat) : Int) := (List.cons.inj ht).1
        omega
    rw [List.range_succ_eq_map, List.map_cons, List.map_map]
    refine List.cons_eq_cons.2 ⟨by rw [hya]; omega, ?_⟩
    rw [ht]
    simp only [List.length_map, List.length_range]
    apply List.map_congr_left
    intro i _
    show a + 1 + (i : Int) = a + ((i + 1 : Nat) : Int)
    omega
theorem rng_pw (n : Nat) : (rngL n).Pairwise (· < ·) := by
  unfold rngL
  rw [List.pairwise_map]
  exact (List.pairwise_lt_range (n := n)).imp (fun h => by omega)
theorem rng_mem (n : Nat) (y : Int) : y ∈ rngL n ↔ 0 ≤ y ∧ y < (n : Int) := by
  unfold rngL
  rw [List.mem_map]
  constructor
  · rintro ⟨i, hi, rfl⟩
    rw [List.mem_range] at hi
    omega
  · rintro ⟨h0, h1⟩
    exact ⟨y.toNat, by rw [List.mem_range]; omega, by omega⟩
theorem ord_iff (x : List Int) : ((x.mergeSort fun a b => decide (a ≤ b)) = rngL x.length) ↔ (x.Nodup ∧ ∀ y ∈ x, 0 ≤ y ∧ y < (x.length : Int)) := by
  have hp := List.mergeSort_perm x (fun a b => decide (a ≤ b))
  constructor
  · intro h
    rw [h] at hp
    refine ⟨hp.nodup_iff.1 ((rng_pw x.length).imp (fun h => by omega)), fun y hy => (rng_mem _ y).1 (hp.mem_iff.2 hy)⟩
  · rintro ⟨hn, hb⟩
    have hs : (x.mergeSort fun a b => decide (a ≤ b)).Pairwise (fun a b => decide (a ≤ b) = true) := List.pairwise_mergeSort (fun a b c h1 h2 => by simp at *; omega) (fun a b => by simp; omega) x
    have hn2 : (x.mergeSort fun a b => decide (a ≤ b)).Nodup := hp.nodup_iff.2 hn
    have hl : (x.mergeSort fun a b => decide (a ≤ b)).length = x.length := List.length_mergeSort x
    have hlt : (x.mergeSort fun a b => decide (a ≤ b)).Pairwise (· < ·) := by
      refine (hs.and hn2).imp ?_
      rintro a b ⟨h1, h2⟩
      have := of_decide_eq_true h1
      omega
    have := asc_of _ 0 hlt (fun y hy => by
      have := hb y (hp.mem_iff.1 hy)
      rw [hl]; omega)
    rw [this, hl]
    unfold rngL
    apply List.map_congr_left
    intro i _
    omega
theorem has_l (s : List Int) (x : Int) (hl : s.length ≤ 1048576) (d : Nat) : ∀ (j : Nat), s.length - j = d → j ≤ s.length → Ev (fun k => spec_l00Has.l0 k s x (j : Int)) (decide (x ∈ s.drop j)) := by
  induction d with
  | zero =>
    intro j hd hj
    rw [List.drop_eq_nil_of_le (by omega), decide_eq_false (by simp)]
    exact ev_ret (fun k => by rw [spec_l00Has.l0, if_neg (by omega)])
  | succ d ih =>
    intro j hd hj
    have e := Aside0.mk (show wrap64 ((j : Int) + 1) = ((j + 1 : Nat) : Int) by rw [wid (by omega) (by omega)]; omega)
    have hx := ih (j + 1) (by omega) (by omega)
    have g1 : (j : Int) < (s.length : Int) := by omega
    have g2 : (0 : Int) ≤ (j : Int) := by omega
    rw [drop_cons s j (by omega)]
    by_cases h : rd s (j : Int) = x
    · rw [decide_eq_true (by rw [h]; exact List.mem_cons_self ..)]
      exact ev_ret (fun k => by rw [spec_l00Has.l0, if_pos g1, if_pos g2, if_pos h])
    · have ed : decide (x ∈ rd s (j : Int) :: s.drop (j + 1)) = decide (x ∈ s.drop (j + 1)) := by
        congr 1
        rw [List.mem_cons]
        exact propext ⟨fun q => q.resolve_left (fun e => h e.symm), .inr⟩
      rw [ed]
      refine Ev.step (fun k => ?_) hx
      rw [spec_l00Has.l0, if_pos g1, if_pos g2, if_neg h, e.out]
theorem has_is (s : List Int) (x : Int) (hl : s.length ≤ 1048576) : Ev (fun k => spec_l00Has.f k s x) (decide (x ∈ s)) := by
  have := has_l s x hl s.length 0 (by omega) (by omega)
  rw [List.drop_zero] at this
  exact this
theorem in_is (a b c : Int) : spec_l00In.f a b c = some (decide (b ≤ a) && decide (a ≤ c)) := by
  unfold spec_l00In.f
  by_cases h : a ≥ b
  · rw [if_pos h, decide_eq_true (show b ≤ a from h), Bool.true_and]
  · rw [if_neg h, decide_eq_false (show ¬ b ≤ a from h), Bool.false_and]
/-- What the loop answers from i on. -/
def ordTail (x : List Int) (n : Int) (i : Nat) : Prop := (x.drop i).Nodup ∧ (∀ y ∈ x.drop i, 0 ≤ y ∧ y ≤ n - 1 ∧ y ∉ x.take i) ∧ (x.length : Int) = n
open Classical in
theorem order_l (x : List Int) (n : Int) (hn0 : 0 ≤ n) (hn1 : n ≤ 1048576) (hl : x.length ≤ 1048576) (d : Nat) : ∀ i : Nat, x.length - i = d → i ≤ x.length → Ev (fun k => spec_l03Order.l0 k x n (i : Int)) (decide (ordTail x n i)) := by
  have wn := Aside0.mk (show wrap64 (n - 1) = n - 1 from wid (by omega) (by omega))
  induction d with
  | zero =>
    intro i hd hi
    have e : ordTail x n i ↔ (x.length : Int) = n := by
      unfold ordTail
      rw [List.drop_eq_nil_of_le (by omega)]
      simp
    have e2 : decide (ordTail x n i) = ((x.length : Int) == n) := by
      rw [Bool.eq_iff_iff, decide_eq_true_eq, e, beq_iff_eq]
    rw [e2]
    exact ev_ret (fun k => by rw [spec_l03Order.l0, if_neg (by omega)])
  | succ d ih =>
    intro i hd hi
    have hi2 : i < x.length := by omega
    have e1 := Aside0.mk (show wrap64 ((i : Int) + 1) = ((i + 1 : Nat) : Int) by rw [wid (by omega) (by omega)]; omega)
    have g1 : (i : Int) < (x.length : Int) := by omega
    have g2 : (0 : Int) ≤ (i : Int) := by omega
    have g3 : (i : Int) ≤ (x.length : Int) := by omega
    have hx := ih (i + 1) (by omega) (by omega)
    have hd1 := drop_cons x i hi2
    have ht1 := take_snoc x i hi2
    have hh := has_is (x.take i) (rd x (i : Int)) (by rw [List.length_take]; omega)
    have key : ordTail x n i ↔ ((0 ≤ rd x (i : Int) ∧ rd x (i : Int) ≤ n - 1) ∧ rd x (i : Int) ∉ x.take i ∧ ordTail x n (i + 1)) := by
      unfold ordTail
      rw [hd1, ht1, List.nodup_cons]
      generalize rd x (i : Int) = y
      generalize x.drop (i + 1) = t
      generalize x.take i = p
      constructor
      · rintro ⟨⟨a1, a2⟩, a3, a4⟩
        have b := a3 y (List.mem_cons_self ..)
        refine ⟨⟨b.1, b.2.1⟩, b.2.2, a2, fun z hz => ?_, a4⟩
        have c := a3 z (List.mem_cons_of_mem _ hz)
        refine ⟨c.1, c.2.1, fun q => ?_⟩
        rcases List.mem_append.1 q with q | q
        · exact c.2.2 q
        · rw [List.mem_singleton] at q; subst q; exact a1 hz
      · rintro ⟨⟨b1, b2⟩, b3, a2, a3, a4⟩
        refine ⟨⟨fun q => (a3 y q).2.2 (List.mem_append_right _ (List.mem_singleton.2 rfl)), a2⟩, fun z hz => ?_, a4⟩
        rcases List.mem_cons.1 hz with rfl | hz
        · exact ⟨b1, b2, b3⟩
        · have c := a3 z hz
          exact ⟨c.1, c.2.1, fun q => c.2.2 (List.mem_append_left _ q)⟩
    clear hd1 ht1
    by_cases c1 : 0 ≤ rd x (i : Int) ∧ rd x (i : Int) ≤ n - 1
    · have c1b : (decide (0 ≤ rd x (i : Int)) && decide (rd x (i : Int) ≤ n - 1)) = true := by rw [decide_eq_true c1.1, decide_eq_true c1.2]; rfl
      by_cases c2 : rd x (i : Int) ∈ x.take i
      · rw [decide_eq_false (fun h => (key.1 h).2.1 c2)]
        rw [decide_eq_true c2] at hh
        refine Ev.step (f := fun k => (spec_l00Has.f k (x.take i) (rd x (i : Int))).bind fun t111 => (if t111 = true then (some false) else (spec_l03Order.l0 k x n ((i + 1 : Nat) : Int)))) (fun k => ?_) (Ev.bind hh (ev_all fun k => by rw [if_pos rfl]))
        rw [spec_l03Order.l0, if_pos g1, if_pos g2, wn.out, in_is, c1b, Option.bind_some, if_pos rfl, if_pos g3, Int.toNat_natCast, e1.out]
      · have ed : decide (ordTail x n i) = decide (ordTail x n (i + 1)) := by
          rw [Bool.eq_iff_iff, decide_eq_true_eq, decide_eq_true_eq, key]
          exact ⟨fun h => h.2.2, fun h => ⟨c1, c2, h⟩⟩
        rw [ed]
        rw [decide_eq_false c2] at hh
        refine Ev.step (f := fun k => (spec_l00Has.f k (x.take i) (rd x (i : Int))).bind fun t111 => (if t111 = true then (some false) else (spec_l03Order.l0 k x n ((i + 1 : Nat) : Int)))) (fun k => ?_) (Ev.bind hh ?_)
        · rw [spec_l03Order.l0, if_pos g1, if_pos g2, wn.out, in_is, c1b, Option.bind_some, if_pos rfl, if_pos g3, Int.toNat_natCast, e1.out]
        · simp only [if_neg (show ¬ (false = true) by decide)]
          exact hx
    · have c1b : (decide (0 ≤ rd x (i : Int)) && decide (rd x (i : Int) ≤ n - 1)) = false := by
        rw [Bool.and_eq_false_iff, decide_eq_false_iff_not, decide_eq_false_iff_not]
        exact Classical.not_and_iff_not_or_not.1 c1
      rw [decide_eq_false (fun h => c1 (key.1 h).1)]
      exact ev_ret (fun k => by rw [spec_l03Order.l0, if_pos g1, if_pos g2, wn.out, in_is, c1b, Option.bind_some, if_neg (by decide)])
theorem order_is (x : List Int) (n : Int) (hn0 : 0 ≤ n) (hn1 : n ≤ 1048576) (hl : x.length ≤ 1048576) : Ev (fun k => spec_l03Order.f k x n) (ordB x n) := by
  classical
  have h := order_l x n hn0 hn1 hl x.length 0 (by omega) (by omega)
  have e : decide (ordTail x n 0) = ordB x n := by
    rw [Bool.eq_iff_iff, decide_eq_true_eq]
    unfold ordTail ordB
    rw [Bool.and_eq_true, decide_eq_true_eq, decide_eq_true_eq, List.drop_zero, List.take_zero]
    constructor
    · rintro ⟨a, b, c⟩
      refine ⟨c, ?_⟩
      rw [← c, Int.toNat_natCast]
      exact (ord_iff x).2 ⟨a, fun y hy => by have := b y hy; omega⟩
    · rintro ⟨c, s⟩
      rw [← c, Int.toNat_natCast] at s
      obtain ⟨a, b⟩ := (ord_iff x).1 s
      exact ⟨a, fun y hy => by have := b y hy; exact ⟨this.1, by omega, by simp⟩, c⟩
  rw [← e]
  exact h

/-- The reference's test of a policy. -/
theorem l3_ev (l0 : List (List Int)) (l1 : List Int) (h0 : ∀ x ∈ l0, x.length ≤ 1048576) (h1 : l1.length ≤ 1048576) : ∃ K, ∀ k, K ≤ k → ((spec_l03Order.f k l1 (l1.length : Int)).isSome && l0.all fun x => (spec_l03Order.f k x (l1.length : Int)).isSome) = true ∧ l3is k l0 l1 = validP l0 l1 := by
  obtain ⟨K1, k1⟩ := order_is l1 (l1.length : Int) (by omega) (by omega) h1
  have hall : ∀ (Y : List (List Int)), (∀ x ∈ Y, x.length ≤ 1048576) → ∃ K, ∀ k, K ≤ k → ∀ x ∈ Y, spec_l03Order.f k x (l1.length : Int) = some (ordB x (l1.length : Int)) := by
    intro Y
    induction Y with
    | nil => intro _; exact ⟨0, fun k _ x hx => by cases hx⟩
    | cons y Y ih =>
      intro h
      obtain ⟨K, hK⟩ := ih (fun x hx => h x (List.mem_cons_of_mem _ hx))
      obtain ⟨K2, hK2⟩ := order_is y (l1.length : Int) (by omega) (by omega) (h y (List.mem_cons_self ..))
      refine ⟨max K K2, fun k hk x hx => ?_⟩
      rcases List.mem_cons.1 hx with rfl | hx
      · exact hK2 k (by omega)
      · exact hK k (by omega) x hx
  obtain ⟨K0, k0⟩ := hall l0 h0
  refine ⟨max K0 K1, fun k hk => ?_⟩
  have e1 := k1 k (by omega)
  have e0 := k0 k (by omega)
  have e1' : spec_l03Order.f k l1 (l1.length : Int) = some (ordB l1 (l1.length : Int)) := e1
  refine ⟨by
    rw [Bool.and_eq_true, List.all_eq_true]
    exact ⟨by rw [e1']; rfl, fun x hx => by rw [e0 x hx]; rfl⟩, ?_⟩
  have q : ∀ x, spec_l03Order.f k x (l1.length : Int) = some (ordB x (l1.length : Int)) → l3o k x (l1.length : Int) = ordB x (l1.length : Int) := fun x hx => by
    unfold l3o; rw [hx]; cases ordB x (l1.length : Int) <;> rfl
  have ea : (l0.all fun x => l3o k x (l1.length : Int)) = (l0.all fun x => ordB x (l1.length : Int)) := by
    rw [Bool.eq_iff_iff, List.all_eq_true, List.all_eq_true]
    exact forall_congr' fun x => forall_congr' fun hx => by rw [q x (e0 x hx)]
  unfold l3is validP
  rw [ea, q l1 e1']
  generalize (l0.all fun x => ordB x (l1.length : Int)) = b4
  generalize ordB l1 (l1.length : Int) = b3
  rw [Bool.eq_iff_iff]
  simp only [Bool.and_eq_true, Bool.not_eq_true', decide_eq_false_iff_not, decide_eq_true_eq, bne_eq_false_iff_eq]
  constructor
  · rintro ⟨a, b, c, d⟩
    exact ⟨by omega, by omega, d⟩
  · rintro ⟨a, b, d⟩
    exact ⟨by omega, by omega, by omega, d⟩

theorem six_of {H : List (List Int)} {M : List Int} (h : validP H M = true) : Six H M := by
  unfold validP at h
  simp only [Bool.and_eq_true, decide_eq_true_eq, List.all_eq_true] at h
  obtain ⟨h1, h2, h3, h4⟩ := h
  have ho : ∀ x : List Int, ordB x (M.length : Int) = true → x.length = M.length ∧ ∀ a ∈ x, 0 ≤ a ∧ a < 6 := fun x hx => by
    unfold ordB at hx
    rw [Bool.and_eq_true, decide_eq_true_eq, decide_eq_true_eq] at hx
    have hl : x.length = M.length := by omega
    have hm := (ord_iff x).1 (by rw [hx.2, hl, Int.toNat_natCast])
    exact ⟨hl, fun a ha => by have := hm.2 a ha; omega⟩
  exact ⟨by omega, h2, (ho M h3).2, fun x hx => ho x (h4 x hx)⟩
theorem FnExactForgetAfter : laws_FnExactForgetAfter.Pure := by
  intro l0 l1 hl0 hl1
  refine Ev.rounds (r := true) ?_
  unfold laws_FnExactForgetAfter.f
  obtain ⟨z, ez, hz⟩ := szP l0 l1 hl0.1 (fun x hx => (hl0.2 x hx).1) hl1.1
  refine Ev.bind ez ?_
  rcases hz with hz | ⟨hz, h1, hX, hx⟩
  · simp only [if_pos hz]
    exact Ev.now _
  simp only [if_neg (show ¬ z < 0 by omega)]
  have et := toP l0 l1 hX hx h1
  obtain ⟨A, es, ei⟩ : ∃ A : Int × Bool, Ev (fun k => spec_ForgetAfter.f k l0 l1) A ∧ impl_ForgetAfter.f l0 l1 = some A := by
    obtain ⟨K, hK⟩ := l3_ev l0 l1 hx h1
    cases hv : validP l0 l1 with
    | true =>
      have h6 := six_of hv
      refine ⟨faL l0 l1, ⟨K, fun k hk => ?_⟩, ?_⟩
      · obtain ⟨a, b⟩ := hK k hk
        show spec_ForgetAfter.f k l0 l1 = some (faL l0 l1)
        unfold spec_ForgetAfter.f
        rw [if_pos (show spec_ForgetAfter.ok k l0 l1 = true from a), b, hv, if_pos rfl, if_pos h6, spec_fa h6]
      · unfold impl_ForgetAfter.f
        rw [if_pos ⟨h1, hx⟩, hv, if_pos rfl, if_pos h6, impl_fa h6]
    | false =>
      refine ⟨(0, false), ⟨K, fun k hk => ?_⟩, ?_⟩
      · obtain ⟨a, b⟩ := hK k hk
        show spec_ForgetAfter.f k l0 l1 = some (0, false)
        unfold spec_ForgetAfter.f
        rw [if_pos (show spec_ForgetAfter.ok k l0 l1 = true from a), b, hv, if_neg (by decide)]
      · unfold impl_ForgetAfter.f
        rw [if_pos ⟨h1, hx⟩, hv, if_neg (by decide)]
  refine Ev.bind et (Ev.bind es (Ev.bind et ?_))
  simp only [ei, Option.bind_some, if_true, bne_self_eq_false]
  refine Ev.step (f := fun k => (laws_toPolicy.f k l0 l1).bind fun bt => (laws_eqPolicy.f k l0 l1 bt.1 bt.2).bind fun t => (if t = true then (some true) else (some false))) (fun k => by rw [laws_FnExactForgetAfter.j0, if_neg (by decide)]) ?_
  refine Ev.bind et (Ev.bind (eqP l0 l1 hX hx h1) ?_)
  simp only [if_true]
  exact Ev.now _

end Go.Proofs.Yteoacngaicchiaa.Pure
