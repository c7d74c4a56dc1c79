-- My own: a map of numbers that the call makes, told by a function (seat r4).
import Derived.Test.YteoacngaicchiaaProg
import Derived.Test.YteoacngaicchiaaWMore
import Derived.Maps.OwnSet
namespace Go.Proofs.Yteoacngaicchiaa.Far
open Go.RowKit Go.Maps Go.Proofs.YteoacngaicchiaaW.PrintWords Go.Proofs.YteoacngaicchiaaW.PrintLast Go.Proofs.YteoacngaicchiaaW.PrintMore
open Go.ChangeMaps (putKey notKey)
set_option linter.unusedVariables false
set_option linter.unusedSimpArgs false

theorem len_of_subset : ∀ (l L : List Int), l.Pairwise (· ≠ ·) → (∀ x ∈ l, x ∈ L) → l.length ≤ L.length
  | [], _, _, _ => Nat.zero_le _
  | x :: l, L, hp, hs => by
    have hp' := List.pairwise_cons.1 hp
    have hx := hs x (List.mem_cons_self ..)
    have h1 := len_of_subset l (L.erase x) hp'.2 (fun y hy => (List.mem_erase_of_ne (fun e => hp'.1 y hy e.symm)).2 (hs y (List.mem_cons_of_mem _ hy)))
    rw [List.length_erase_of_mem hx] at h1
    have h2 := List.length_pos_of_mem hx
    rw [List.length_cons]
    omega

/-- Keys from 0 to 63 alone. -/
def Keys64 {H : Type} (D : DataW H) : Prop := ∃ es, D = .map es ∧ ∀ p ∈ es, ∃ x : Int, 0 ≤ x ∧ x < 64 ∧ p.1 = .int .i64 x

theorem mem_insert {H : Type} (x y : Lit × DataW H) : ∀ l, y ∈ DataW.insert x l → y = x ∨ y ∈ l
  | [], h => by
    unfold DataW.insert at h
    exact .inl (List.mem_singleton.1 h)
  | z :: l, h => by
    unfold DataW.insert at h
    split at h
    · exact List.mem_cons.1 h
    · rcases List.mem_cons.1 h with h | h
      · exact .inr (h ▸ List.mem_cons_self ..)
      · rcases mem_insert x y l h with h | h
        · exact .inl h
        · exact .inr (List.mem_cons_of_mem _ h)

theorem Keys64.put {H : Type} {D : DataW H} (h : Keys64 D) {x : Int} (h0 : 0 ≤ x) (h1 : x < 64) (d : DataW H) : Keys64 (D.put (.int .i64 x) d) := by
  obtain ⟨es, rfl, hk⟩ := h
  refine ⟨_, DataW.put_eq es _ d, fun p hp => ?_⟩
  unfold putKey at hp
  rcases mem_insert _ _ _ hp with rfl | hp
  · exact ⟨x, h0, h1, rfl⟩
  · exact hk p (List.mem_filter.1 hp).1

theorem Keys64.size {H : Type} {D : DataW H} (h : Keys64 D) (t : Tidy D) : Maps.size D ≤ 64 := by
  obtain ⟨es, rfl, hk⟩ := h
  obtain ⟨es', e, hp⟩ := t
  cases e
  have hl := len_of_subset (es.map fun p => match p.1 with | .int _ x => x | _ => 0) ((List.range 64).map fun n : Nat => (n : Int)) ?_ ?_
  · rw [List.length_map, List.length_map, List.length_range] at hl
    exact hl
  · rw [List.pairwise_map]
    refine hp.imp_of_mem (fun {p q} hp1 hq1 hne => ?_)
    obtain ⟨x, _, _, ex⟩ := hk p hp1
    obtain ⟨y, _, _, ey⟩ := hk q hq1
    rw [ex, ey] at hne ⊢
    exact fun e => hne (by rw [show x = y from e])
  · intro x hx
    obtain ⟨p, hp1, rfl⟩ := List.mem_map.1 hx
    obtain ⟨y, h0, h1, ey⟩ := hk p hp1
    rw [ey]
    exact List.mem_map.2 ⟨y.toNat, List.mem_range.2 (by omega), by simp; omega⟩

theorem rebound {H : Type} {P : Program} {k : TypeId} {R : Value → Option (DataW H × List MemPlace)} {w : World} {b n : Nat} {D : DataW H} (h : w.ownsMap P k R b n D) (K : Keyed P k) (hk : Keys64 D) : w.ownsMap P k R b 64 D := by
  have hs := hk.size (h.tidy K)
  obtain ⟨es, clock, hb, F, _, hD⟩ := h
  refine ⟨es, clock, hb, F, ?_, hD⟩
  rw [hD, Maps.size_eq, length_read] at hs
  exact hs

theorem law : Keyed Try.prog 2 := int_keyed Try.underlying2

/-- A map of numbers, told by a function. -/
def KnAt (w : World) (b : Nat) (kn : Int → Option Int) : Prop :=
  ∃ D : DataW Unit, w.ownsMap Try.prog 2 (plainElem Try.prog 2) b 64 D ∧ Keys64 D ∧ ∀ x : Int, 0 ≤ x → x < 64 → Maps.has D (.int .i64 x) = (kn x).isSome ∧ D.atKey (.int .i64 x) (.lit (.int .i64 0)) = .lit (.int .i64 ((kn x).getD 0))
/-- A map of truth values, told by a function. -/
def OpAt (w : World) (b : Nat) (op : Int → Bool) : Prop :=
  ∃ D : DataW Unit, w.ownsMap Try.prog 2 (plainElem Try.prog 4) b 64 D ∧ Keys64 D ∧ ∀ x : Int, 0 ≤ x → x < 64 → D.atKey (.int .i64 x) (.lit (.bool false)) = .lit (.bool (op x))
/-- One place of a function is another value. -/
def upd {α : Type} (f : Int → α) (m : Int) (v : α) : Int → α := fun x => if x = m then v else f x

theorem keys_nil {H : Type} : Keys64 (.map [] : DataW H) := ⟨[], rfl, fun _ h => by cases h⟩
theorem KnAt.made (w : World) : KnAt (w.alloc (.map #[] 0)) w.heap.size (fun _ => none) :=
  ⟨.map [], (World.ownsMap_made w _ _ _).mono (Nat.zero_le _), keys_nil, fun x _ _ => ⟨rfl, rfl⟩⟩
theorem OpAt.made (w : World) : OpAt (w.alloc (.map #[] 0)) w.heap.size (fun _ => false) :=
  ⟨.map [], (World.ownsMap_made w _ _ _).mono (Nat.zero_le _), keys_nil, fun x _ _ => rfl⟩
theorem KnAt.kept {w w' : World} {b : Nat} {kn : Int → Option Int} {row : Option Nat} (h : KnAt w b kn) (hg : w.grownBy w' row) (hne : some b ≠ row) : KnAt w' b kn := by
  obtain ⟨D, h1, h2⟩ := h
  exact ⟨D, h1.kept hg hne, h2⟩
theorem OpAt.kept {w w' : World} {b : Nat} {op : Int → Bool} {row : Option Nat} (h : OpAt w b op) (hg : w.grownBy w' row) (hne : some b ≠ row) : OpAt w' b op := by
  obtain ⟨D, h1, h2⟩ := h
  exact ⟨D, h1.kept hg hne, h2⟩
theorem wf_small {x : Int} (h0 : 0 ≤ x) (h1 : x < 64) : (Lit.int .i64 x).wf = true := WalkArith.wf_i64 (by omega)
theorem KnAt.put {w w' : World} {b n : Nat} {kn : Int → Option Int} {D : DataW Unit} {x v : Int} (hD : Keys64 D) (hr : ∀ x : Int, 0 ≤ x → x < 64 → Maps.has D (.int .i64 x) = (kn x).isSome ∧ D.atKey (.int .i64 x) (.lit (.int .i64 0)) = .lit (.int .i64 ((kn x).getD 0)))
    (hI : IsMap D) (h : w'.ownsMap Try.prog 2 (plainElem Try.prog 2) b n (D.put (.int .i64 x) (.lit (.int .i64 v)))) (h0 : 0 ≤ x) (h1 : x < 64) : KnAt w' b (upd kn x (some v)) := by
  refine ⟨_, rebound h law (hD.put h0 h1 _), hD.put h0 h1 _, fun y hy0 hy1 => ?_⟩
  unfold upd
  by_cases e : y = x
  · subst e
    rw [if_pos rfl]
    exact ⟨has_put_same hI (show Go.WideAt.IsKeyLit (Lit.int .i64 y) from trivial) _, atKey_put_same hI (show Go.WideAt.IsKeyLit (Lit.int .i64 y) from trivial) _ _⟩
  · rw [if_neg e, has_put_other (fun q => e (by cases q; rfl)), atKey_put_other (fun q => e (by cases q; rfl))]
    exact hr y hy0 hy1
theorem OpAt.put {w w' : World} {b n : Nat} {op : Int → Bool} {D : DataW Unit} {x : Int} {v : Bool} (hD : Keys64 D) (hr : ∀ x : Int, 0 ≤ x → x < 64 → D.atKey (.int .i64 x) (.lit (.bool false)) = .lit (.bool (op x)))
    (hI : IsMap D) (h : w'.ownsMap Try.prog 2 (plainElem Try.prog 4) b n (D.put (.int .i64 x) (.lit (.bool v)))) (h0 : 0 ≤ x) (h1 : x < 64) : OpAt w' b (upd op x v) := by
  refine ⟨_, rebound h law (hD.put h0 h1 _), hD.put h0 h1 _, fun y hy0 hy1 => ?_⟩
  unfold upd
  by_cases e : y = x
  · subst e
    rw [if_pos rfl]
    exact atKey_put_same hI (show Go.WideAt.IsKeyLit (Lit.int .i64 y) from trivial) _ _
  · rw [if_neg e, atKey_put_other (fun q => e (by cases q; rfl))]
    exact hr y hy0 hy1
theorem plainElem_bool_inv {H : Type} {P : Program} {e : TypeId} (he : P.underlying e = some .bool) {v : Value} {z : DataW H × List MemPlace} (h : plainElem P e v = some z) : ∃ x, v = .bool x ∧ z = (.lit (.bool x), []) := by
  cases v <;> simp [plainElem, he] at h
  exact ⟨_, rfl, h.symm⟩

section
variable {P : Program} (w : World) {ops : Array Oper} {rest : List Oper} {o : Oper} {a : Act} {Q : Exit → Act → World → Prop}
/-- 'v, ok := m[k]' at such a map. -/
theorem look_kn (hg : o.guard = none) (m x : Operand) (t : TypeId) (hop : o.op = Op.lookup t m x true) (ht : Try.prog.underlying t = some (.map 2 2)) (b : Nat) (kn : Int → Option Int)
    (hm : a.eval m = .map (some b)) (h : KnAt w b kn) (key : Int) (hx : a.eval x = .int .i64 key) (h0 : 0 ≤ key) (h1 : key < 64)
    (hK : wpList Try.prog ops Q rest (a.put o.dst (.tuple #[.int .i64 ((kn key).getD 0), .bool (kn key).isSome])) w) :
    wpList Try.prog ops Q (o :: rest) a w := by
  obtain ⟨D, h1', h2', h3'⟩ := h
  obtain ⟨e1, e2⟩ := h3' key h0 h1
  refine wpList_lookup_own_ok_int w hg m x t hop 2 2 .i64 law ht Try.underlying2 (Try.zeroValue2 w) b 64 D hm h1' _ _ hx (keyOf_int_mk Try.underlying2 (wf_small h0 h1)) (fun c hat _ => ?_)
  rw [e2] at hat
  have hc : c = (kn key).getD 0 := by cases hat; rfl
  rw [hc, e1]
  exact hK
/-- 'm[k]' at such a map. -/
theorem look_op (hg : o.guard = none) (m x : Operand) (t : TypeId) (hop : o.op = Op.lookup t m x false) (ht : Try.prog.underlying t = some (.map 2 4)) (b : Nat) (op : Int → Bool)
    (hm : a.eval m = .map (some b)) (h : OpAt w b op) (key : Int) (hx : a.eval x = .int .i64 key) (h0 : 0 ≤ key) (h1 : key < 64)
    (hK : wpList Try.prog ops Q rest (a.put o.dst (.bool (op key))) w) :
    wpList Try.prog ops Q (o :: rest) a w := by
  obtain ⟨D, h1', h2', h3'⟩ := h
  refine wpList_plain hg fun K' hK' => ?_
  obtain ⟨v, ps, hrun, hv⟩ := h1'.lookup law ht (Try.zeroValue4 w) (plainElem_bool Try.underlying4 false) (keyOf_int_mk Try.underlying2 (wf_small h0 h1))
  rw [h3' key h0 h1] at hv
  obtain ⟨c, rfl, hc⟩ := plainElem_bool_inv Try.underlying4 hv
  have hcc : c = op key := by
    have := congrArg Prod.fst hc
    cases this
    rfl
  subst hcc
  unfold Oper.wp
  simp [execOp, hop, hm, hx, hrun, Result.andThen]
  exact hK' _ _ hK
/-- 'm[k] = v' at such a map. -/
theorem put_kn (hg : o.guard = none) (m x v : Operand) (t : TypeId) (hop : o.op = Op.mapUpdate t m x v) (ht : Try.prog.underlying t = some (.map 2 2)) (b : Nat) (kn : Int → Option Int)
    (hm : a.eval m = .map (some b)) (h : KnAt w b kn) (key val : Int) (hx : a.eval x = .int .i64 key) (hv : a.eval v = .int .i64 val) (h0 : 0 ≤ key) (h1 : key < 64) (hw : (Lit.int .i64 val).wf = true)
    (hK : ∀ w', KnAt w' b (upd kn key (some val)) → w.grownBy w' (some b) → wpList Try.prog ops Q rest (a.put o.dst undef) w') :
    wpList Try.prog ops Q (o :: rest) a w := by
  obtain ⟨D, h1', h2', h3'⟩ := h
  exact wpList_mapUpdate_own w hg m x v t hop 2 2 law ht (plainElem Try.prog 2) b 64 D hm h1' (by unfold maxLen; omega) _ _ _ hx hv (keyOf_int_mk Try.underlying2 (wf_small h0 h1)) _ [] (plainElem_int Try.underlying2 hw)
    (fun w' ho hgr => hK w' (KnAt.put (w := w) h2' h3' h1'.isMap ho h0 h1) hgr)
theorem put_op (hg : o.guard = none) (m x v : Operand) (t : TypeId) (hop : o.op = Op.mapUpdate t m x v) (ht : Try.prog.underlying t = some (.map 2 4)) (b : Nat) (op : Int → Bool)
    (hm : a.eval m = .map (some b)) (h : OpAt w b op) (key : Int) (val : Bool) (hx : a.eval x = .int .i64 key) (hv : a.eval v = .bool val) (h0 : 0 ≤ key) (h1 : key < 64)
    (hK : ∀ w', OpAt w' b (upd op key val) → w.grownBy w' (some b) → wpList Try.prog ops Q rest (a.put o.dst undef) w') :
    wpList Try.prog ops Q (o :: rest) a w := by
  obtain ⟨D, h1', h2', h3'⟩ := h
  exact wpList_mapUpdate_own w hg m x v t hop 2 4 law ht (plainElem Try.prog 4) b 64 D hm h1' (by unfold maxLen; omega) _ _ _ hx hv (keyOf_int_mk Try.underlying2 (wf_small h0 h1)) _ [] (plainElem_bool Try.underlying4 val)
    (fun w' ho hgr => hK w' (OpAt.put (w := w) h2' h3' h1'.isMap ho h0 h1) hgr)
end
#print axioms put_op
end Go.Proofs.Yteoacngaicchiaa.Far
