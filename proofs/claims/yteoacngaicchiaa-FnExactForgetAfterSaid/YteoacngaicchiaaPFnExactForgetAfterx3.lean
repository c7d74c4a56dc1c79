-- WRITTEN BY wip/xprint.py out of the translation, with contracts of mine put in: Lean checks it.
import Derived.Test.YteoacngaicchiaaPFnExactForgetAfterx0
import Derived.Test.YteoacngaicchiaaPFnExactForgetAfterx2
namespace Go.Proofs.Yteoacngaicchiaa.PFnExactForgetAfter
open Go.RowKit Go.Proofs.YteoacngaicchiaaW.PrintWords Go.Proofs.YteoacngaicchiaaW.PrintLast Go.Proofs.YteoacngaicchiaaW.PrintMore
attribute [local go_sem] max2_int min2_int max_two min_two max_three min_three max_four min_four   -- for this text's walks alone
set_option linter.unusedVariables false
set_option linter.unusedSimpArgs false

/-! ### spec_l03After: function 85: by hand -/
/-- A bit of a mask. -/
def bitAt (m a : Int) : Int := Go.bits .and .i64 (shr .i64 m a) 1
theorem bit_fin : ∀ (m : Fin 64) (a : Fin 6), bitAt (m.val : Int) (a.val : Int) = 0 ∨ bitAt (m.val : Int) (a.val : Int) = 1 := by decide +kernel
theorem andnot_fin : ∀ (m : Fin 64) (a b : Fin 6), bitAt (Go.bits .andNot .i64 (m.val : Int) (shl .i64 1 (b.val : Int))) (a.val : Int) = if a = b then 0 else bitAt (m.val : Int) (a.val : Int) := by decide +kernel
theorem or_fin : ∀ (o : Fin 64) (j : Fin 6), Go.bits .or .i64 (o.val : Int) (shl .i64 0 (j.val : Int)) = o.val ∧ (o.val < 2 ^ j.val → Go.bits .or .i64 (o.val : Int) (shl .i64 1 (j.val : Int)) = ((o.val + 2 ^ j.val : Nat) : Int)) := by decide +kernel
theorem bit_tells (m a : Int) (h1 : 0 ≤ m) (h2 : m < 64) (h3 : 0 ≤ a) (h4 : a < 6) : bitAt m a = 0 ∨ bitAt m a = 1 := by
  have := bit_fin ⟨m.toNat, by omega⟩ ⟨a.toNat, by omega⟩
  simp only [Int.toNat_of_nonneg h1, Int.toNat_of_nonneg h3] at this
  exact this
theorem andnot_tells (m a b : Int) (h1 : 0 ≤ m) (h2 : m < 64) (h3 : 0 ≤ a) (h4 : a < 6) (h5 : 0 ≤ b) (h6 : b < 6) : bitAt (Go.bits .andNot .i64 m (shl .i64 1 b)) a = if a = b then 0 else bitAt m a := by
  have := andnot_fin ⟨m.toNat, by omega⟩ ⟨a.toNat, by omega⟩ ⟨b.toNat, by omega⟩
  simp only [Int.toNat_of_nonneg h1, Int.toNat_of_nonneg h3, Int.toNat_of_nonneg h5, Fin.mk.injEq] at this
  rw [this]
  by_cases e : a = b
  · rw [if_pos e, if_pos (by rw [e])]
  · rw [if_neg e, if_neg (by omega)]
theorem or_tells (o : Int) (j : Nat) (h1 : 0 ≤ o) (h2 : o < 64) (h3 : j < 6) : Go.bits .or .i64 o (shl .i64 0 (j : Int)) = o ∧ (o < 2 ^ j → Go.bits .or .i64 o (shl .i64 1 (j : Int)) = o + 2 ^ j) := by
  have := or_fin ⟨o.toNat, by omega⟩ ⟨j, h3⟩
  simp only [Int.toNat_of_nonneg h1] at this
  refine ⟨this.1, fun h => ?_⟩
  rw [this.2 (by have : ((2 ^ j : Nat) : Int) = 2 ^ j := by norm_cast
                 omega)]
  rw [Int.natCast_add, Int.toNat_of_nonneg h1]
  norm_cast
/-- The set of ages after an order, without one age. -/
def mvd (mask wo : Int) : List Int → Nat → Int → Int
  | [], _, o => o
  | a :: l, j, o => mvd mask wo l (j + 1) (if a = wo then o else if bitAt mask a = 1 then o + 2 ^ j else o)
theorem pow_cases (j : Nat) (h : j < 6) : (2 : Int) ^ j ≤ 32 ∧ 1 ≤ (2 : Int) ^ j ∧ (2 : Int) ^ (j + 1) = 2 ^ j + 2 ^ j := by
  have : j = 0 ∨ j = 1 ∨ j = 2 ∨ j = 3 ∨ j = 4 ∨ j = 5 := by omega
  rcases this with rfl | rfl | rfl | rfl | rfl | rfl <;> decide
theorem mvd_bound (mask wo : Int) : ∀ (l : List Int) (j : Nat) (o : Int), 0 ≤ o → o < 2 ^ j → 0 ≤ mvd mask wo l j o ∧ mvd mask wo l j o < 2 ^ (j + l.length)
  | [], j, o, h0, h1 => ⟨h0, h1⟩
  | a :: l, j, o, h0, h1 => by
    have hp : (2 : Int) ^ (j + 1) = 2 ^ j + 2 ^ j := by rw [Int.pow_succ]; omega
    have e : j + (a :: l).length = (j + 1) + l.length := by rw [List.length_cons]; omega
    rw [e]
    unfold mvd
    refine mvd_bound mask wo l (j + 1) _ ?_ ?_
    · split
      · exact h0
      · split <;> omega
    · split
      · omega
      · split <;> omega
/-- The number of sets. -/
def setsN (n : Nat) : Int := 2 ^ n
theorem setsN_le (n : Nat) (h : n ≤ 6) : 1 ≤ setsN n ∧ setsN n ≤ 64 := by
  have : n = 0 ∨ n = 1 ∨ n = 2 ∨ n = 3 ∨ n = 4 ∨ n = 5 ∨ n = 6 := by omega
  rcases this with rfl | rfl | rfl | rfl | rfl | rfl | rfl <;> decide
theorem u64_id (a : Int) (h : 0 ≤ a) (h2 : a < 64) : IntKind.u64.wrap a = a := by
  rw [IntKind.wrap_u64]; omega
theorem moved_l (mask wo : Int) (ages : List Int) (h1 : 0 ≤ mask) (h2 : mask < 64) (hA : ∀ a ∈ ages, 0 ≤ a ∧ a < 6) (hl : ages.length ≤ 6) (h5 : 0 ≤ wo) (h6 : wo < 6) : ∀ (d i : Nat) (o : Int), ages.length - i < d → i ≤ ages.length → 0 ≤ o → o < 2 ^ i →
    spec_l03Moved.l0 d mask ages wo o (i : Int) = some (mvd mask wo (ages.drop i) i o)
  | 0, _, _, h, _, _, _ => absurd h (Nat.not_lt_zero _)
  | d + 1, i, o, h, hi, h0, ho => by
    rw [spec_l03Moved.l0]
    by_cases c : i < ages.length
    · have e : ages.drop i = rd ages (i : Int) :: ages.drop (i + 1) := by
        rw [List.drop_eq_getElem_cons c]
        unfold rd
        rw [Int.toNat_natCast, List.getD_eq_getElem?_getD, List.getElem?_eq_getElem c]
        rfl
      have hm : rd ages (i : Int) ∈ ages := by
        unfold rd
        rw [Int.toNat_natCast, List.getD_eq_getElem?_getD, List.getElem?_eq_getElem c]
        exact List.getElem_mem _
      obtain ⟨ha1, ha2⟩ := hA _ hm
      have hp := pow_cases i (by omega)
      have w1 : wrap64 ((i : Int) + 1) = ((i + 1 : Nat) : Int) := by unfold wrap64; omega
      rw [if_pos (by omega), if_pos (by omega), e, mvd]
      generalize rd ages (i : Int) = a at ha1 ha2 ⊢
      rw [u64_id a ha1 (by omega), u64_id (i : Int) (by omega) (by omega), w1, if_pos ha1, if_pos (show (0 : Int) ≤ (i : Int) by omega)]
      by_cases q : a = wo
      · rw [if_pos q, if_pos q]
        exact moved_l mask wo ages h1 h2 hA hl h5 h6 d (i + 1) o (by omega) (by omega) h0 (by omega)
      · rw [if_neg q, if_neg q]
        by_cases b : bitAt mask a = 1
        · rw [if_pos b, if_pos (show Go.bits .and .i64 (shr .i64 mask a) 1 = 1 from b), (or_tells o i h0 (by omega) (by omega)).2 ho]
          exact moved_l mask wo ages h1 h2 hA hl h5 h6 d (i + 1) _ (by omega) (by omega) (by omega) (by omega)
        · rw [if_neg b, if_neg (show ¬ Go.bits .and .i64 (shr .i64 mask a) 1 = 1 from b)]
          exact moved_l mask wo ages h1 h2 hA hl h5 h6 d (i + 1) o (by omega) (by omega) h0 (by omega)
    · rw [if_neg (by omega), List.drop_eq_nil_of_le (by omega)]
      rfl
theorem moved_f (mask wo : Int) (ages : List Int) (h1 : 0 ≤ mask) (h2 : mask < 64) (hA : ∀ a ∈ ages, 0 ≤ a ∧ a < 6) (hl : ages.length ≤ 6) (h5 : 0 ≤ wo) (h6 : wo < 6) :
    spec_l03Moved.f (ages.length + 1) mask ages wo = some (mvd mask wo ages 0 0) := by
  have := moved_l mask wo ages h1 h2 hA hl h5 h6 (ages.length + 1) 0 0 (by omega) (by omega) (by omega) (by decide)
  exact this
/-- A policy of at most six ways, as the sets' walks need it. -/
def Six (H : List (List Int)) (M : List Int) : Prop := (1 ≤ M.length ∧ M.length ≤ 6) ∧ H.length = M.length ∧ (∀ a ∈ M, 0 ≤ a ∧ a < 6) ∧ ∀ x ∈ H, x.length = M.length ∧ ∀ a ∈ x, 0 ≤ a ∧ a < 6
instance sixDec (H : List (List Int)) (M : List Int) : Decidable (Six H M) := by unfold Six; infer_instance
/-- The sets behind one more use, from age i on. -/
def nxFrom (H : List (List Int)) (mask : Int) : Nat → Nat → List Int
  | 0, _ => []
  | d + 1, i => (if bitAt mask (i : Int) = 1 then [mvd mask (i : Int) (H.getD i []) 0 0] else []) ++ nxFrom H mask d (i + 1)
/-- The sets behind one more use. -/
def nx (H : List (List Int)) (M : List Int) (mask : Int) : List Int := mvd mask ((M.length : Int) - 1) M 0 0 :: nxFrom H mask M.length 0
theorem nxFrom_len (H : List (List Int)) (mask : Int) : ∀ (d i : Nat), (nxFrom H mask d i).length ≤ d
  | 0, _ => Nat.le_refl _
  | d + 1, i => by
    have := nxFrom_len H mask d (i + 1)
    rw [nxFrom, List.length_append]
    split <;> simp <;> omega
theorem nxFrom_small (H : List (List Int)) (mask : Int) (n : Nat) (hH : ∀ x ∈ H, x.length = n) : ∀ (d i : Nat), i + d ≤ H.length → ∀ y ∈ nxFrom H mask d i, 0 ≤ y ∧ y < setsN n
  | 0, _, _, y, h => by cases h
  | d + 1, i, hi, y, h => by
    rw [nxFrom, List.mem_append] at h
    rcases h with h | h
    · split at h
      · rw [List.mem_singleton] at h
        subst h
        have hm : H.getD i [] ∈ H := by
          rw [List.getD_eq_getElem?_getD, List.getElem?_eq_getElem (by omega)]
          exact List.getElem_mem _
        have hb := mvd_bound mask (i : Int) (H.getD i []) 0 0 (by omega) (by decide)
        rw [Nat.zero_add, hH _ hm] at hb
        exact hb
      · cases h
    · exact nxFrom_small H mask n hH d (i + 1) (by omega) y h
theorem nx_small {H : List (List Int)} {M : List Int} (h : Six H M) (mask : Int) : (∀ y ∈ nx H M mask, 0 ≤ y ∧ y < setsN M.length) ∧ (nx H M mask).length ≤ 7 := by
  obtain ⟨⟨h1, h2⟩, h3, h4, h5⟩ := h
  refine ⟨fun y hy => ?_, ?_⟩
  · rcases List.mem_cons.1 hy with rfl | hy
    · have hb := mvd_bound mask ((M.length : Int) - 1) M 0 0 (by omega) (by decide)
      rw [Nat.zero_add] at hb
      exact hb
    · exact nxFrom_small H mask M.length (fun x hx => (h5 x hx).1) M.length 0 (by omega) y hy
  · have := nxFrom_len H mask M.length 0
    show (nxFrom H mask M.length 0).length + 1 ≤ 7
    omega
theorem spec_l03After.info2 : (Try.prog.info? 2).map (fun i => (i.zero, i.size, i.bytes)) = some (some (.int .i64 0), 1, 8) := by kernel_rfl
theorem moved_at (mask wo : Int) (A : Option Addr) (c : Nat) (ages : List Int) (h1 : 0 ≤ mask) (h2 : mask < 64) (hA : ∀ a ∈ ages, 0 ≤ a ∧ a < 6) (hl : ages.length ≤ 6) (h5 : 0 ≤ wo) (h6 : wo < 6) (w : World) (hr : Kd.C (Kd.int .i64) w A ages.length ages) (hc : ages.length ≤ c) :
    Calls Try.prog 106 #[.int .i64 mask, .slice A ages.length c, .int .i64 wo] w fun e w' => e = .returned (.int .i64 (mvd mask wo ages 0 0)) ∧ Drawn0 w w' :=
  spec_l03Moved.calls _ mask A c ages wo _ w hr hc (moved_f mask wo ages h1 h2 hA hl h5 h6)
set_option maxHeartbeats 8000000 in
set_option maxRecDepth 100000 in
theorem spec_l03After.at_ (g : Nat) (A0 : Option Addr) (c0 : Nat) (H : List (List Int)) (A1 : Option Addr) (c1 : Nat) (M : List Int) (mask : Int) (w : World) (hb : w.heap[g]? = some (.cells #[.slice A0 H.length c0, .slice A1 M.length c1] 42 (0, 0)))
    (hr0 : Kd.C (Kd.slice 2 (Kd.int .i64)) w A0 H.length H) (hc0 : H.length ≤ c0) (hr1 : Kd.C (Kd.int .i64) w A1 M.length M) (hc1 : M.length ≤ c1) (h6 : Six H M) (hm1 : 0 ≤ mask) (hm2 : mask < 64) :
    Calls Try.prog 85 #[.pointer (some ⟨g, 0, none⟩), .int .i64 mask] w fun e w' => ∃ v, e = .returned v ∧ Kd.R (Kd.int .i64) 2 w' w.heap.size (fun _ => True) v (nx H M mask) ∧ Below w.heap.size w w' := by
  have hu := Try.underlying42
  have k1 := (blk_cell hb 1).trans rfl
  have HBL := Aside0.mk hb
  have HR0 := Aside0.mk hr0
  have HR1 := Aside0.mk hr1
  have HC0 := Aside0.mk hc0
  have H6 := Aside0.mk h6
  have HM := Aside0.mk (And.intro hm1 hm2)
  have hB := Aside0.mk (Below.refl w.heap.size w)
  have hwn : wrap64 ((M.length : Int) - 1) = (M.length : Int) - 1 := by have := h6.1; unfold wrap64; omega
  have hc := moved_at mask ((M.length : Int) - 1) A1 c1 M hm1 hm2 h6.2.2.1 h6.1.2 (by have := h6.1; omega) (by have := h6.1; omega) w hr1 hc1
  rw [← hwn] at hc
  have hX : mvd mask (wrap64 ((M.length : Int) - 1)) M 0 0 = mvd mask ((M.length : Int) - 1) M 0 0 := by rw [hwn]
  have HX := Aside0.mk hX
  clear hb hr0 hr1 hc0 h6 hm1 hm2 hwn hX
  generalize hf : mvd mask (wrap64 ((M.length : Int) - 1)) M 0 0 = f0 at hc
  have HF := Aside0.mk hf
  clear hf
  go_enter Try.func85, Try.ntmps85
  go_wp2_with fail
  refine hc.mono ?_
  clear hc
  rintro e w1 ⟨rfl, hd⟩
  have B1 := Aside0.mk (Drawn0.below hd)
  have BK1 := Aside0.mk (blk_below HBL.out (Drawn0.below hd))
  clear hd k1
  go_wp2_with ((with_reducible refine gate_dst (N := 21) rfl ?_); refine Kd.R_lit (Kd.int .i64) (w0 := w) w.heap.size 2 ?hg (N := 21) ?hd (xs := ([f0] : List Int)) (inner := [.int .i64 f0]) (ok := fun _ => True) (okp := fun _ => True) ?hr ?hp (fun _ hk => hk) trivial B1.out (Below.size B1.out) (by simp) ?_; (case hd => rfl); (case hg => rfl); (case hr => first | (go_simp; done) | (go_simp; rfl)); (case hp => exact (Reps.one (show Kd.M (Kd.int .i64) _ _ _ f0 [.int .i64 f0] from rfl) (Reps.none _ _))); intro v6 w2 ho hb hg_ hnew_; have HO := Aside0.mk ho; have B2 := Aside0.mk hb; clear ho hb hg_ hnew_)
  go_loopg [6, 7] M.length (fun gg s6 s7 wr => ∃ (kk : Nat) (xs : List Int), kk ≤ M.length ∧ M.length - kk ≤ gg ∧ s7 = .int .i64 kk ∧ Aside0 (Kd.R (Kd.int .i64) 2 wr w.heap.size (fun _ => True) s6 xs) ∧ Aside0 (Below w.heap.size w wr) ∧ Aside0 (xs ++ nxFrom H mask (M.length - kk) kk = nx H M mask) ∧ Aside0 (xs.length ≤ kk + 1))
  case atStart => exact ⟨0, [f0], Nat.zero_le _, by omega, rfl, HO, B2, ⟨by rw [Nat.sub_zero]; show f0 :: nxFrom H mask M.length 0 = nx H M mask; unfold nx; rw [← HF.out, HX.out]⟩, ⟨by simp⟩⟩
  case round =>
    clear HO B1 B2 BK1 HF HX
    obtain ⟨kk, xs, hkk, hgg, rfl, HO, HB, HE, HL⟩ := hrel
    by_cases hlt : kk < M.length
    · have hltz : (kk : Int) < (M.length : Int) := by omega
      have hu64 : IntKind.u64.wrap (kk : Int) = (kk : Int) := u64_id _ (by omega) (by have := H6.out.1; omega)
      have hsh : mask / 2 ^ min kk 64 = shr .i64 mask (kk : Int) := by first | rfl | (unfold shr; simp; done) | (unfold shr; rw [Int.toNat_natCast])
      have hstep := HE.out
      rw [show M.length - kk = (M.length - (kk + 1)) + 1 by omega, nxFrom] at hstep
      by_cases hbit : bitAt mask (kk : Int) = 1
      · have hbz : (Go.bits .and .i64 (mask / 2 ^ min kk 64) 1 == 1) = true := by rw [hsh]; exact beq_iff_eq.2 hbit
        rw [if_pos hbit] at hstep
        have h6 := H6.out
        obtain ⟨h61, h62, h63, h64⟩ := h6
        have hlt0 : kk < H.length := by omega
        have hltz0 : (kk : Int) < (H.length : Int) := by omega
        have hB := HB.out
        have BKr := blk_below HBL.out hB
        have kr0 := (blk_cell BKr 0).trans rfl
        obtain ⟨ad, cs, e1, _, hK, hq0⟩ := Kd.C_get (Kd.C_below HR0.out hB) ([] : List Int) (kk : Int) (by omega) hltz0
        subst e1
        have hmem : H.getD kk [] ∈ H := by rw [List.getD_eq_getElem?_getD, List.getElem?_eq_getElem hlt0]; exact List.getElem_mem _
        obtain ⟨hx1, hx2⟩ := h64 _ hmem
        rw [Int.toNat_natCast] at hK
        generalize H.getD kk [] = y at hK hx1 hx2 hstep
        obtain ⟨A2, c2, rfl, hl2, hC2⟩ := hK
        have hcell : wr.cell? (ad.add kk) = some (.slice A2 y.length c2) := by
          have := hq0 0 _ rfl
          rwa [Int.toNat_natCast, show kk * (Kd.slice 2 (Kd.int .i64)).sz + 0 = kk by show kk * 1 + 0 = kk; omega] at this
        have hc := moved_at mask (kk : Int) A2 c2 y HM.out.1 HM.out.2 hx2 (by omega) (by omega) (by omega) wr hC2 hl2
        generalize mvd mask (kk : Int) y 0 0 = m at hc hstep
        have HS := Aside0.mk hstep
        have HLT := Aside0.mk (And.intro hlt hgg)
        have HW := Aside0.mk (show wrap64 ((kk : Int) + 1) = ((kk + 1 : Nat) : Int) by have := H6.out.1; unfold wrap64; omega)
        clear hsh hstep HE hbit hlt hkk hgg h61 h62 h63 h64 hlt0 hB BKr hq0 hmem hx1 hx2 hl2 hC2
        go_wp2_with fail
        refine hc.mono ?_
        clear hc
        rintro e w3 ⟨rfl, hd⟩
        have B3 := Aside0.mk (below_step HB.out (Drawn0.below hd))
        have R3 := Aside0.mk (Kd.R_below HO.out (Drawn0.below hd))
        clear hd HO HB kr0 hcell
        go_wp2_with ((with_reducible refine gate_builtin (b := .append) rfl ?_); at_builtin; refine Kd.R_append (Kd.int .i64) (w0 := w) w.heap.size rfl _ _ 24 2 (.int .i64 0) 8 rfl Try.underlying24 spec_l03After.info2 rfl (by decide) (by omega) u6 xs m [.int .i64 m] (fun _ => True) (fun _ => False) rfl rfl ?aP (fun _ hk => hk.elim) ?aF ?aO ?aB ?aS ?aL ?_; (case aP => exact rfl); (case aB => exact B3.out); (case aF => exact (fun _ _ => trivial)); (case aO => exact R3.out); (case aS => exact (Below.size B3.out)); (case aL => have := HL.out; have := H6.out.1; have := HLT.out; omega); intro v7 w6 ho hb hg hat; have HO2 := Aside0.mk ho; have B4 := Aside0.mk hb; clear ho hb hg hat)
        go_roundg (M.length - (kk + 1))
        case measure => have := HLT.out; omega
        case rel => exact ⟨kk + 1, xs ++ [m], by have := HLT.out; omega, by omega, by first | rfl | (rw [HW.out]), HO2, B4, ⟨by rw [List.append_assoc]; exact HS.out⟩, ⟨by have := HL.out; rw [List.length_append, List.length_singleton]; omega⟩⟩
      · have hbz : (Go.bits .and .i64 (mask / 2 ^ min kk 64) 1 == 1) = false := by rw [hsh]; exact beq_eq_false_iff_ne.2 hbit
        rw [if_neg hbit, List.nil_append] at hstep
        have HE2 := Aside0.mk hstep
        have HLT := Aside0.mk (And.intro hlt hgg)
        have HW := Aside0.mk (show wrap64 ((kk : Int) + 1) = ((kk + 1 : Nat) : Int) by have := H6.out.1; unfold wrap64; omega)
        clear hsh hstep HE hbit hlt hkk hgg
        go_wp2_with fail
        go_roundg (M.length - (kk + 1))
        case measure => have := HLT.out; omega
        case rel => exact ⟨kk + 1, xs, by have := HLT.out; omega, by omega, by first | rfl | (rw [HW.out]), HO, HB, HE2, ⟨by have := HL.out; omega⟩⟩
    · obtain rfl : kk = M.length := by omega
      have he := HE.out
      rw [Nat.sub_self, nxFrom, List.append_nil] at he
      subst he
      have hltz : ¬ (M.length : Int) < (M.length : Int) := by omega
      go_wp2
      go_ret
      exact ⟨_, rfl, HO.out, HB.out⟩


/-! ### spec_l00Max: function 87 -/
def spec_l00Max.f (a0 : Int) (a1 : Int) : Option (Int) := if a0 > a1 then (some a0) else (some a1)
set_option maxHeartbeats 8000000 in
set_option maxRecDepth 100000 in
theorem spec_l00Max.calls (a0 : Int) (a1 : Int) (r : Int) (w : World) (h : spec_l00Max.f a0 a1 = some r) :
    Calls Try.prog 87 #[.int .i64 a0, .int .i64 a1] w fun e w' => e = .returned (.int .i64 r) ∧ Drawn0 w w' := by
  have H : (if a0 > a1 then (some a0) else (some a1)) = some r := h
  clear h
  by_cases c3 : a0 > a1
  · rw [if_pos c3] at H
    have c3b0 : decide (a1 < a0) = true := decide_eq_true c3
    clear c3
    obtain rfl := Option.some.inj H
    go_enter Try.func87, Try.ntmps87
    go_wp2
    go_ret
    exact ⟨by first | rfl | (simp; done) | (simp [*]; done), by repeat (first | exact Drawn0.refl _ | apply Drawn0.step)⟩
  · rw [if_neg c3] at H
    have c3b0 : decide (a1 < a0) = false := decide_eq_false c3
    clear c3
    obtain rfl := Option.some.inj H
    go_enter Try.func87, Try.ntmps87
    go_wp2
    go_ret
    exact ⟨by first | rfl | (simp; done) | (simp [*]; done), by repeat (first | exact Drawn0.refl _ | apply Drawn0.step)⟩

/-! ### spec_ForgetAfter: function 48: by hand -/
theorem has_l : ∀ (d : Nat) (l : List Int) (x : Int) (i : Nat), l.length ≤ 1048576 → l.length - i < d → i ≤ l.length → spec_l00Has.l0 d l x (i : Int) = some ((l.drop i).contains x)
  | 0, _, _, _, _, h, _ => absurd h (Nat.not_lt_zero _)
  | d + 1, l, x, i, hl, h, hi => by
    rw [spec_l00Has.l0]
    by_cases c : i < l.length
    · have e : l.drop i = rd l (i : Int) :: l.drop (i + 1) := by
        rw [List.drop_eq_getElem_cons c]
        unfold rd
        rw [Int.toNat_natCast, List.getD_eq_getElem?_getD, List.getElem?_eq_getElem c]
        rfl
      rw [if_pos (by omega), if_pos (by omega), e, List.contains_cons]
      by_cases q : rd l (i : Int) = x
      · rw [if_pos q, q]
        simp
      · have w1 : wrap64 ((i : Int) + 1) = ((i + 1 : Nat) : Int) := by unfold wrap64; omega
        rw [if_neg q, w1, has_l d l x (i + 1) hl (by omega) (by omega), beq_eq_false_iff_ne.2 (fun z => q z.symm), Bool.false_or]
    · rw [if_neg (by omega), List.drop_eq_nil_of_le (by omega)]
      rfl
/-- l00Has tells whether a number is on a list. -/
theorem has_f (l : List Int) (x : Int) (hl : l.length ≤ 1048576) : spec_l00Has.f (l.length + 1) l x = some (l.contains x) := by
  have := has_l (l.length + 1) l x 0 hl (by omega) (by omega)
  exact this
theorem has_at (A : Option Addr) (c : Nat) (l : List Int) (x : Int) (hl : l.length ≤ 1048576) (w : World) (hr : Kd.C (Kd.int .i64) w A l.length l) (hc : l.length ≤ c) :
    Calls Try.prog 86 #[.slice A l.length c, .int .i64 x] w fun e w' => e = .returned (.bool (l.contains x)) ∧ Drawn0 w w' :=
  spec_l00Has.calls _ A c l x _ w hr hc (has_f l x hl)

/-- A list with numbers put behind it, each once. -/
def addL (L : List Int) : List Int → List Int
  | [] => L
  | y :: l => addL (if L.contains y then L else L ++ [y]) l
/-- The sets that can be reached, from place i of the list on. -/
def reachF (H : List (List Int)) (M : List Int) : Nat → List Int → Nat → Option (List Int)
  | 0, _, _ => none
  | d + 1, L, i => if i < L.length then (if L.length ≤ 1000 then reachF H M d (if L.getD i 0 > 0 then addL L (nx H M (L.getD i 0)) else L) (i + 1) else none) else some L
/-- The longest way behind one of some sets. -/
def bestF (F : List Int) : List Int → Int → Int
  | [], b => b
  | y :: l, b => bestF F l (if b > wrap64 (1 + F.getD y.toNat 0) then b else wrap64 (1 + F.getD y.toNat 0))
/-- One round over the list, from place i on. -/
def passF (H : List (List Int)) (M : List Int) (L : List Int) : Nat → Nat → List Int → Bool → List Int × Bool
  | 0, _, F, g => (F, g)
  | d + 1, i, F, g => if L.getD i 0 = 0 then passF H M L d (i + 1) F g else
      passF H M L d (i + 1) (F.set (L.getD i 0).toNat (bestF F (nx H M (L.getD i 0)) 0)) (g || decide (bestF F (nx H M (L.getD i 0)) 0 > F.getD (L.getD i 0).toNat 0))
/-- The rounds. -/
def roundsF (H : List (List Int)) (M : List Int) (L : List Int) (full : Int) : Nat → List Int → Int × Bool
  | 0, _ => (0, false)
  | d + 1, F => if (passF H M L L.length 0 F false).2 = true then roundsF H M L full d (passF H M L L.length 0 F false).1 else ((passF H M L L.length 0 F false).1.getD full.toNat 0, true)
/-- What the reference computes. -/
def specFA (H : List (List Int)) (M : List Int) : Option (Int × Bool) := (reachF H M 100 [setsN M.length - 1] 0).bind fun L => if L.length ≤ 1000 then some (roundsF H M L (setsN M.length - 1) (L.length + 2) (List.replicate (setsN M.length).toNat 0)) else none

theorem row_cell {w : World} {base g n cap : Nat} {ok : Nat → Prop} {xs : List Int} (h : Kd.R (Kd.int .i64) 2 w base ok (.slice (some ⟨g, 0, none⟩) n cap) xs) (i : Nat) (hi : i < n) : w.cell? ⟨g, i, none⟩ = some (.int .i64 (xs.getD i 0)) ∧ w.frozen? ⟨g, i, none⟩ = false := by
  have h_ := Kd.R_celln 0 h (i : Int) (by omega) (by omega)
  rw [Int.toNat_natCast] at h_
  unfold rdOf at h_
  rw [Int.toNat_natCast] at h_
  exact h_
theorem fa_box {e : Nat} {w0 w1 : World} {base : Nat} {v : Value} {xs : List Int} (h : Kd.R (Kd.int .i64) e w1 w0.heap.size (fun _ => True) v xs) (hb : base ≤ w0.heap.size) : Kd.R (Kd.int .i64) e w1 base (fun k => w0.heap.size ≤ k ∧ k < w1.heap.size) v xs :=
  Kd.R_lower (Kd.R_mono (Kd.R_bound h) (fun _ hk => ⟨hk.2.1, hk.2.2.1⟩)) hb
theorem getD_small {L : List Int} {n : Int} (h : ∀ x ∈ L, 0 ≤ x ∧ x < n) (i : Nat) (hi : i < L.length) : 0 ≤ L.getD i 0 ∧ L.getD i 0 < n := by
  refine h _ ?_
  rw [List.getD_eq_getElem?_getD, List.getElem?_eq_getElem hi]
  exact List.getElem_mem _
theorem spec_ForgetAfter.info2 : (Try.prog.info? 2).map (fun i => (i.zero, i.size, i.bytes)) = some (some (.int .i64 0), 1, 8) := by kernel_rfl
set_option maxHeartbeats 8000000 in
set_option maxRecDepth 100000 in
theorem spec_ForgetAfter.at_ (k : Nat) (A0 : Option Addr) (c0 : Nat) (H : List (List Int)) (A1 : Option Addr) (c1 : Nat) (M : List Int) (r1 : Int) (r2 : Bool) (w : World) (hr0 : Kd.C (Kd.slice 2 (Kd.int .i64)) w A0 H.length H) (hc0 : H.length ≤ c0) (hr1 : Kd.C (Kd.int .i64) w A1 M.length M) (hc1 : M.length ≤ c1)
    (hs1 : (spec_l03Order.f k M (M.length : Int)).isSome = true) (hs0 : ∀ x ∈ H, (spec_l03Order.f k x (M.length : Int)).isSome = true) (hv : l3is k H M = true) (h6 : Six H M) (hf : specFA H M = some (r1, r2)) :
    Calls Try.prog 48 #[.agg #[.slice A0 H.length c0, .slice A1 M.length c1]] w fun e w' => e = .returned (.tuple #[.int .i64 r1, .bool r2]) ∧ Below w.heap.size w w' := by
  have hu := Try.underlying42
  have hbl := blk_new w (.cells #[.slice A0 H.length c0, .slice A1 M.length c1] 42)
  have hB1 : Below w.heap.size w (w.alloc (.cells #[.slice A0 H.length c0, .slice A1 M.length c1] 42)) := below_alloc (Below.refl _ _) _
  have HC := spec_l03Is.at_ k w.heap.size A0 c0 H A1 c1 M _ hbl (Kd.C_alloc hr0 _) hc0 (Kd.C_alloc hr1 _) hc1 hs1 hs0
  rw [hv] at HC
  have HR0 := Aside0.mk hr0
  have HR1 := Aside0.mk hr1
  have HC0 := Aside0.mk hc0
  have HC1 := Aside0.mk hc1
  have H6 := Aside0.mk h6
  have HF := Aside0.mk hf
  have k1 := fun q => (blk_cell (blk_drewN hbl q) 1).trans rfl
  have BL := Aside0.mk hbl
  have HB1 := Aside0.mk hB1
  clear hr0 hc0 hr1 hc1 hs1 hs0 hv h6 hf hbl hB1
  go_enter Try.func48, Try.ntmps48
  go_wp2_with fail
  refine HC.mono ?_
  clear HC
  rintro e w1 ⟨rfl, ⟨nd, rfl⟩⟩
  have k2 := k1 nd
  clear k1
  have hfull : wrap64 (wrap64 (2 ^ min (IntKind.u64.wrap (M.length : Int)).toNat 64) - 1) = setsN M.length - 1 := by
    have h1 := H6.out.1
    rw [u64_id _ (by omega) (by omega), Int.toNat_natCast, Nat.min_eq_left (by omega)]
    have h2 := setsN_le M.length h1.2
    show wrap64 (wrap64 (setsN M.length) - 1) = setsN M.length - 1
    generalize setsN M.length = s at h2 ⊢
    unfold wrap64
    omega
  have HFU := Aside0.mk hfull
  clear hfull
  obtain ⟨full, hfu⟩ : ∃ f, f = wrap64 (wrap64 (2 ^ min (IntKind.u64.wrap (M.length : Int)).toNat 64) - 1) := ⟨_, rfl⟩
  have HFU2 := Aside0.mk (hfu.trans HFU.out)
  clear HFU
  have BL2 := Aside0.mk (blk_drewN BL.out nd)
  have HB2 := Aside0.mk (pw_below_drewN HB1.out nd)
  clear BL HB1
  go_wp2_with ((with_reducible refine gate_dst (N := 25) rfl ?_); refine Kd.R_lit (Kd.int .i64) _ 2 ?hg (N := 25) ?hd (xs := ([full] : List Int)) (inner := [.int .i64 full]) (ok := fun _ => True) (okp := fun _ => True) ?hr ?hp (fun _ hk => hk) trivial (Below.refl _ _) (Nat.le_refl _) (by simp) ?_; (case hd => rfl); (case hg => rfl); (case hr => first | (go_simp; done) | (rw [hfu]; go_simp; done) | (rw [hfu]; go_simp; rfl)); (case hp => exact (Reps.one (show Kd.M (Kd.int .i64) _ _ _ full [.int .i64 full] from rfl) (Reps.none _ _))); intro v5 w2 ho hb hg_ hnew_; have HO := Aside0.mk (Kd.R_lower ho (Below.size HB2.out)); have B2 := Aside0.mk (below_step HB2.out hb); have BK2 := Aside0.mk (blk_below BL2.out hb); clear ho hb hg_ hnew_ k2)
  rw [← hfu]
  clear hfu BL2 HB2
  obtain ⟨Lf, hLf, hrest⟩ := Option.bind_eq_some_iff.mp HF.out
  rw [← HFU2.out] at hLf
  have HLf := Aside0.mk hLf
  have HRE := Aside0.mk hrest
  clear hLf hrest HF
  have HS0 := Aside0.mk (show ∀ x ∈ [full], 0 ≤ x ∧ x < setsN M.length by
    intro x hx
    rw [List.mem_singleton] at hx
    subst hx
    have := setsN_le M.length H6.out.1.2
    have := HFU2.out
    omega)
  go_loopg [5, 6] 100 (fun gg s5 s6 wr => ∃ (L : List Int) (i : Nat), s6 = .int .i64 i ∧ Aside0 (Kd.R (Kd.int .i64) 2 wr w.heap.size (fun _ => True) s5 L) ∧ Aside0 (wr.heap[w.heap.size]? = some (.cells #[.slice A0 H.length c0, .slice A1 M.length c1] 42 (0, 0))) ∧ Aside0 (Below w.heap.size w wr) ∧ Aside0 (reachF H M gg L i = some Lf) ∧ Aside0 ((∀ x ∈ L, 0 ≤ x ∧ x < setsN M.length) ∧ 0 < L.length))
  case atStart => exact ⟨[full], 0, rfl, HO, BK2, B2, HLf, ⟨HS0.out, by simp⟩⟩
  case round =>
    clear HO BK2 B2 HLf HS0
    obtain ⟨L, i, rfl, HO, BK, HB, HRF, HS⟩ := hrel
    cases gk with
    | zero => exact absurd HRF.out (by simp [reachF])
    | succ k1 =>
      have hrf := HRF.out
      clear HRF
      rw [reachF] at hrf
      by_cases hlt : i < L.length
      · rw [if_pos hlt] at hrf
        by_cases hbig : L.length ≤ 1000
        case neg => rw [if_neg hbig] at hrf; cases hrf
        rw [if_pos hbig] at hrf
        obtain ⟨gl, cap, ev, hgb, hgl, _⟩ := Kd.R_form HO.out (by omega)
        subst ev
        have hcell := (row_cell HO.out i hlt).1
        have hx := getD_small HS.out.1 i hlt
        have hltz : (i : Int) < (L.length : Int) := by omega
        have hsz := setsN_le M.length H6.out.1.2
        have hnx := nx_small H6.out (L.getD i 0)
        have hc := spec_l03After.at_ w.heap.size A0 c0 H A1 c1 M (L.getD i 0) wr BK.out (Kd.C_below HR0.out HB.out) HC0.out (Kd.C_below HR1.out HB.out) HC1.out H6.out hx.1 (by omega)
        obtain ⟨x, hxe⟩ : ∃ x, x = L.getD i 0 := ⟨_, rfl⟩
        rw [← hxe] at hrf hcell hnx hc
        obtain ⟨L', hL'⟩ : ∃ L', L' = (if x > 0 then addL L (nx H M x) else L) := ⟨_, rfl⟩
        rw [← hL'] at hrf
        obtain ⟨ys, hys⟩ : ∃ ys, ys = nx H M x := ⟨_, rfl⟩
        rw [← hys] at hL' hnx hc
        have HRF := Aside0.mk hrf
        have HL' := Aside0.mk hL'
        have HNX := Aside0.mk hnx
        have HXE := Aside0.mk hxe
        have HLT := Aside0.mk (And.intro hlt hbig)
        clear hrf hL' hnx hxe hbig hx hsz hys hgb hgl hlt
        go_wp2_with fail
        refine hc.mono ?_
        clear hc
        rintro e w3 ⟨v7, rfl, r7, b7⟩
        have RN := fa_box r7 (Below.size HB.out)
        have hlo := Below.size b7
        have RL : Kd.R (Kd.int .i64) 2 w3 w.heap.size (fun k => ¬ (wr.heap.size ≤ k ∧ k < w3.heap.size)) (.slice (some ⟨gl, 0, none⟩) L.length cap) L := Kd.R_below (Kd.R_mono (Kd.R_bound HO.out) (fun k hk => by have := hk.2.2.1; omega)) b7
        have BK3 := Aside0.mk (blk_below BK.out b7)
        have B3 := Aside0.mk (below_step HB.out b7)
        have HX := HXE.out
        obtain ⟨A7, c7, rfl⟩ := Kd.R_slice RN
        generalize wr.heap.size = lo at RN RL hlo
        obtain ⟨hi, hhi⟩ : ∃ n, n = w3.heap.size := ⟨_, rfl⟩
        rw [← hhi] at RN RL
        have RN3 := Aside0.mk RN
        have RL3 := Aside0.mk RL
        have HHI := Aside0.mk (show hi ≤ w3.heap.size by omega)
        clear r7 b7 RN hlo RL HX hhi HO BK HB hcell
        go_wp2_with fail
        go_loopg [5, 8] 8 (fun gg s5 s8 wr => ∃ (Lc : List Int) (kk : Nat), s8 = .int .i64 kk ∧ Aside0 (kk ≤ ys.length ∧ ys.length - kk ≤ gg ∧ Lc.length ≤ 1000 + kk) ∧ Aside0 (Kd.R (Kd.int .i64) 2 wr w.heap.size (fun k => ¬ (lo ≤ k ∧ k < hi)) s5 Lc) ∧ Aside0 (Kd.R (Kd.int .i64) 2 wr w.heap.size (fun k => lo ≤ k ∧ k < hi) (.slice A7 ys.length c7) ys) ∧ Aside0 (wr.heap[w.heap.size]? = some (.cells #[.slice A0 H.length c0, .slice A1 M.length c1] 42 (0, 0))) ∧ Aside0 (Below w.heap.size w wr) ∧ Aside0 (hi ≤ wr.heap.size) ∧ Aside0 (if x > 0 then addL Lc (ys.drop kk) = L' else Lc = L') ∧ Aside0 ((∀ z ∈ Lc, 0 ≤ z ∧ z < setsN M.length) ∧ i < Lc.length ∧ Lc.getD i 0 = x))
        case atStart => exact ⟨L, 0, rfl, ⟨by have := HNX.out.2; have := HLT.out; omega⟩, RL3, RN3, BK3, B3, HHI, ⟨by rw [List.drop_zero]; have := HL'.out; split <;> rename_i q <;> simp only [q, if_true, if_false] at this <;> exact this.symm⟩, ⟨HS.out.1, HLT.out.1, HXE.out.symm⟩⟩
        case round =>
          clear RL3 RN3 BK3 B3 HHI HL'
          obtain ⟨Lc, kk, rfl, HK, HO, HN, BK, HB, HI, HE, HQ⟩ := hrel
          obtain ⟨gc, cap2, ev, hgb, hgl, _⟩ := Kd.R_form HO.out (by have := HQ.out.2.1; omega)
          subst ev
          clear hgb hgl
          by_cases hk : kk < ys.length
          · have hkz : (kk : Int) < (ys.length : Int) := by omega
            have hci := (row_cell HO.out i HQ.out.2.1).1
            rw [HQ.out.2.2] at hci
            have hilt : (i : Int) < (Lc.length : Int) := by have := HQ.out.2.1; omega
            by_cases hx : x > 0
            · have hx0 : (0 : Int) < x := hx
              obtain ⟨ady, ey, hcy⟩ := Kd.at_int (Kd.R_reads' HN.out).2.2 (kk : Int) (by omega) hkz
              subst ey
              rw [show rd ys (kk : Int) = ys.getD kk 0 by unfold rd; rw [Int.toNat_natCast], Int.toNat_natCast] at hcy
              have he := HE.out
              rw [if_pos hx, List.drop_eq_getElem_cons hk, show ys[kk] = ys.getD kk 0 by rw [List.getD_eq_getElem?_getD, List.getElem?_eq_getElem hk]; rfl, addL] at he
              have hy := getD_small HNX.out.1 kk hk
              generalize ys.getD kk 0 = y at hcy he hy
              have hh := has_at (some ⟨gc, 0, none⟩) cap2 Lc y (by have := HK.out; have := HNX.out.2; omega) wr (Kd.R_reads' HO.out).2.2 (Kd.R_reads' HO.out).2.1
              have HW := Aside0.mk (show wrap64 ((kk : Int) + 1) = ((kk + 1 : Nat) : Int) by have := HNX.out.2; unfold wrap64; omega)
              have HX := Aside0.mk hx
              have HKL := Aside0.mk hk
              have HY := Aside0.mk hy
              clear HE hx hk hy
              cases hcon : Lc.contains y with
              | true =>
                rw [hcon] at hh
                rw [hcon, if_pos rfl] at he
                have HE2 := Aside0.mk he
                clear he hcon
                go_wp2_with fail
                refine hh.mono ?_
                clear hh
                rintro e w4 ⟨rfl, hd⟩
                have b4 := Drawn0.below hd
                have HO4 := Aside0.mk (Kd.R_below HO.out b4)
                have HN4 := Aside0.mk (Kd.R_below HN.out b4)
                have BK4 := Aside0.mk (blk_below BK.out b4)
                have HB4 := Aside0.mk (below_step HB.out b4)
                have HI4 := Aside0.mk (Nat.le_trans HI.out (Below.size b4))
                clear hd b4 HO HN BK HB HI hci hcy
                go_wp2_with fail
                go_roundg (ys.length - (kk + 1))
                case measure => have := HK.out; have := HKL.out; omega
                case rel => exact ⟨Lc, kk + 1, by first | rfl | (rw [HW.out]), ⟨by have := HK.out; have := HKL.out; omega⟩, HO4, HN4, BK4, HB4, HI4, ⟨by rw [if_pos HX.out]; exact HE2.out⟩, HQ⟩
              | false =>
                rw [hcon] at hh
                rw [hcon, if_neg (by decide)] at he
                have HE2 := Aside0.mk he
                clear he hcon
                go_wp2_with fail
                refine hh.mono ?_
                clear hh
                rintro e w4 ⟨rfl, hd⟩
                have b4 := Drawn0.below hd
                have hcy4 := (b4.cell (p := ady.add kk) (World.block_lt_of_cell? wr _ hcy)).trans hcy
                have HO4 := Aside0.mk (Kd.R_below HO.out b4)
                have HN4 := Aside0.mk (Kd.R_below HN.out b4)
                have BK4 := Aside0.mk (blk_below BK.out b4)
                have HB4 := Aside0.mk (below_step HB.out b4)
                have HI4 := Aside0.mk (Nat.le_trans HI.out (Below.size b4))
                clear hd b4 HO HN BK HB HI hci hcy
                go_wp2_with ((with_reducible refine gate_builtin (b := .append) rfl ?_); at_builtin; refine Kd.R_append (Kd.int .i64) (w0 := w) w.heap.size rfl _ _ 24 2 (.int .i64 0) 8 rfl Try.underlying24 spec_ForgetAfter.info2 rfl (by decide) (by omega) (.slice (some ⟨gc, 0, none⟩) Lc.length cap2) Lc y [.int .i64 y] (fun k => ¬ (lo ≤ k ∧ k < hi)) (fun _ => False) rfl rfl ?aP (fun _ hk => hk.elim) ?aF ?aO ?aB ?aS ?aL ?_; (case aP => exact rfl); (case aB => exact HB4.out); (case aF => exact (fun k hk => by have := HI4.out; omega)); (case aO => exact HO4.out); (case aS => exact (Below.size HB4.out)); (case aL => have := HK.out; have := HNX.out.2; omega); intro v8 w6 ho hb hg hat; have HO6 := Aside0.mk ho; have HB6 := Aside0.mk hb; have HN6 := Aside0.mk (Kd.R_grown HN4.out hg (fun k hk e => HO4.out.1 k e.symm hk)); have BK6 := Aside0.mk ((hg.block w.heap.size (blk_lt BK4.out) (fun e => by have := Kd.R_ne HO4.out BK4.out (by decide); exact this e)).trans BK4.out); have HI6 := Aside0.mk (Nat.le_trans HI4.out hg.size); clear ho hb hg hat HO4 HN4 BK4 HB4 HI4 hcy4)
                go_roundg (ys.length - (kk + 1))
                case measure => have := HK.out; have := HKL.out; omega
                case rel => exact ⟨Lc ++ [y], kk + 1, by first | rfl | (rw [HW.out]), ⟨by have := HK.out; have := HKL.out; rw [List.length_append, List.length_singleton]; omega⟩, HO6, HN6, BK6, HB6, HI6, ⟨by rw [if_pos HX.out]; exact HE2.out⟩, ⟨fun z hz => by
                  rcases List.mem_append.1 hz with h | h
                  · exact HQ.out.1 z h
                  · rw [List.mem_singleton] at h; subst h; exact HY.out, by rw [List.length_append]; have := HQ.out.2.1; omega, by rw [List.getD_eq_getElem?_getD, List.getElem?_append_left HQ.out.2.1, ← List.getD_eq_getElem?_getD]; exact HQ.out.2.2⟩⟩
            · have hx0 : ¬ (0 : Int) < x := hx
              have he := HE.out
              rw [if_neg hx] at he
              subst he
              clear hk hx HE
              have HWI := Aside0.mk (show wrap64 ((i : Int) + 1) = ((i + 1 : Nat) : Int) by have := HLT.out; unfold wrap64; omega)
              go_wp2_with fail
              go_roundg k1
              case measure => omega
              case rel => exact ⟨Lc, i + 1, by first | rfl | (rw [HWI.out]), ⟨Kd.R_mono HO.out (fun _ _ => trivial)⟩, BK, HB, HRF, ⟨HQ.out.1, by have := HQ.out.2.1; omega⟩⟩
          · obtain rfl : kk = ys.length := by have := HK.out; omega
            have hkz : ¬ (ys.length : Int) < (ys.length : Int) := by omega
            have he := HE.out
            have he2 : Lc = L' := by
              by_cases hx : x > 0
              · rw [if_pos hx, List.drop_length, addL] at he; exact he
              · rw [if_neg hx] at he; exact he
            subst he2
            clear he HE hk
            have HWI := Aside0.mk (show wrap64 ((i : Int) + 1) = ((i + 1 : Nat) : Int) by have := HLT.out; unfold wrap64; omega)
            go_wp2_with fail
            go_roundg k1
            case measure => omega
            case rel => exact ⟨Lc, i + 1, by first | rfl | (rw [HWI.out]), ⟨Kd.R_mono HO.out (fun _ _ => trivial)⟩, BK, HB, HRF, ⟨HQ.out.1, by have := HQ.out.2.1; omega⟩⟩
      · rw [if_neg hlt] at hrf
        have hLL := Option.some.inj hrf
        subst hLL
        clear hrf
        have hltz : ¬ (i : Int) < (L.length : Int) := by omega
        obtain ⟨gl, cap, ev, hgb, hgl, _⟩ := Kd.R_form HO.out HS.out.2
        subst ev
        clear hgb hgl hlt
        have hre := HRE.out
        by_cases hbig : L.length ≤ 1000
        case neg => rw [if_neg hbig] at hre; cases hre
        rw [if_pos hbig] at hre
        have hre2 := Option.some.inj hre
        have hsz := setsN_le M.length H6.out.1.2
        have hn : wrap64 (full + 1) = setsN M.length := by
          rw [HFU2.out]
          unfold wrap64
          omega
        have hn0 : (0 : Int) ≤ wrap64 (full + 1) := by omega
        have HN1 := Aside0.mk (And.intro hn (And.intro hsz hbig))
        rw [← HFU2.out] at hre2
        have HRR := Aside0.mk hre2
        clear hre hre2 hsz hn hbig HRE
        go_wp2_with ((with_reducible refine gate_dst (N := 66) rfl ?_); refine Kd.R_make (Kd.int .i64) _ 2 rfl (N := 66) rfl 24 _ _ rfl (wrap64 (full + 1)) rfl rfl Try.underlying24 (.int .i64 0) 8 spec_ForgetAfter.info2 rfl (by decide) (by omega) 0 (ok := fun _ => True) (okp := fun _ => True) rfl (fun _ hk => hk) trivial hn0 (by have := HN1.out; omega) (Below.refl _ _) (Nat.le_refl _) ?_; intro v9 w4 ho hb hg hnew; have HFA := Aside0.mk ho; have BM := Aside0.mk hb; clear ho hb hg hnew)
        have hFA := HFA.out
        rw [HN1.out.1] at hFA
        obtain ⟨gf, cf, ev, hgb, hgl, _⟩ := Kd.R_form hFA (by rw [List.length_replicate]; have := HN1.out.2.1; omega)
        rw [List.length_replicate] at ev
        subst ev
        have HL4 := Aside0.mk (Kd.R_mono (ok' := fun k => k ≠ gf) (Kd.R_below (Kd.R_bound HO.out) BM.out) (fun k hk => by have := hk.2.2.1; omega))
        have HF4 : Aside0 (Kd.R (Kd.int .i64) 2 w4 w.heap.size (fun k => k = gf) (.slice (some ⟨gf, 0, none⟩) (setsN M.length).toNat cf) (List.replicate (setsN M.length).toNat 0)) := ⟨Kd.R_lower (Kd.R_mono (Kd.R_tight rfl hFA) (fun k hk => by injection hk)) (Below.size HB.out)⟩
        have BK4 := Aside0.mk (blk_below BK.out BM.out)
        have HB4 := Aside0.mk (below_step HB.out BM.out)
        have HGF := Aside0.mk (Nat.le_trans (Below.size HB.out) hgb)
        have HLS := HS
        clear hFA HFA hgb hgl HO BM BK HB HS hn0
        obtain ⟨N, hN⟩ : ∃ N, N = (setsN M.length).toNat := ⟨_, rfl⟩
        rw [← hN] at HF4 HRR
        rw [← hN]
        have HNN := Aside0.mk (show (N : Int) = setsN M.length ∧ N ≤ 64 ∧ 1 ≤ N by have := HN1.out.2.1; omega)
        clear hN
        go_loopg [10] (L.length + 2) (fun gg s10 wr => ∃ (F : List Int) (rr : Nat), s10 = .int .i64 rr ∧ Aside0 (rr + gg = L.length + 2) ∧ Aside0 (Kd.R (Kd.int .i64) 2 wr w.heap.size (fun k => k ≠ gf) (.slice (some ⟨gl, 0, none⟩) L.length cap) L) ∧ Aside0 (Kd.R (Kd.int .i64) 2 wr w.heap.size (fun k => k = gf) (.slice (some ⟨gf, 0, none⟩) N cf) F) ∧ Aside0 (wr.heap[w.heap.size]? = some (.cells #[.slice A0 H.length c0, .slice A1 M.length c1] 42 (0, 0))) ∧ Aside0 (Below w.heap.size w wr) ∧ Aside0 (roundsF H M L full gg F = (r1, r2)))
        case atStart => exact ⟨List.replicate N 0, 0, rfl, ⟨by omega⟩, HL4, HF4, BK4, HB4, HRR⟩
        case round =>
          clear HL4 HF4 BK4 HB4 HRR
          obtain ⟨F, rr, rfl, HG, HL, HFR, BK, HB, HR⟩ := hrel
          cases gk with
          | zero =>
            have hr := HR.out
            rw [roundsF] at hr
            obtain ⟨rfl, rfl⟩ := Prod.mk.inj hr
            have hc1 : ¬ (rr : Int) ≤ wrap64 ((L.length : Int) + 1) := by have := HG.out; have := HN1.out; unfold wrap64; omega
            clear hr
            go_wp2_with fail
            go_ret2
            exact ⟨rfl, HB.out⟩
          | succ d =>
            have hc1 : (rr : Int) ≤ wrap64 ((L.length : Int) + 1) := by have := HG.out; have := HN1.out; unfold wrap64; omega
            obtain ⟨PF, hPF⟩ : ∃ PF, PF = passF H M L L.length 0 F false := ⟨_, rfl⟩
            have hr := HR.out
            rw [roundsF, ← hPF] at hr
            have HR2 := Aside0.mk hr
            have HPF := Aside0.mk hPF
            clear hr hPF HR
            go_wp2_with fail
            go_loopg [11, 12] L.length (fun gg s11 s12 wr => ∃ (F : List Int) (gr : Bool) (i : Nat), s11 = .bool gr ∧ s12 = .int .i64 i ∧ Aside0 (i ≤ L.length ∧ L.length - i ≤ gg) ∧ Aside0 (Kd.R (Kd.int .i64) 2 wr w.heap.size (fun k => k ≠ gf) (.slice (some ⟨gl, 0, none⟩) L.length cap) L) ∧ Aside0 (Kd.R (Kd.int .i64) 2 wr w.heap.size (fun k => k = gf) (.slice (some ⟨gf, 0, none⟩) N cf) F) ∧ Aside0 (wr.heap[w.heap.size]? = some (.cells #[.slice A0 H.length c0, .slice A1 M.length c1] 42 (0, 0))) ∧ Aside0 (Below w.heap.size w wr) ∧ Aside0 (PF = passF H M L (L.length - i) i F gr))
            case atStart => exact ⟨F, false, 0, rfl, rfl, ⟨by omega⟩, HL, HFR, BK, HB, ⟨by rw [Nat.sub_zero]; exact HPF.out⟩⟩
            case round =>
              clear HL HFR BK HB HPF
              obtain ⟨F, gr, i, rfl, rfl, HI, HL, HFR, BK, HB, HP⟩ := hrel
              by_cases hlt : i < L.length
              · have hltz2 : (i : Int) < (L.length : Int) := by omega
                have hcell := (row_cell HL.out i hlt).1
                have hx := getD_small HLS.out.1 i hlt
                have hp := HP.out
                rw [show L.length - i = (L.length - (i + 1)) + 1 by omega, passF] at hp
                obtain ⟨xn, hxn⟩ : ∃ xn : Nat, L.getD i 0 = (xn : Int) := ⟨(L.getD i 0).toNat, by omega⟩
                rw [hxn] at hcell hx hp
                rw [Int.toNat_natCast] at hp
                have HWI := Aside0.mk (show wrap64 ((i : Int) + 1) = ((i + 1 : Nat) : Int) by have := HN1.out; unfold wrap64; omega)
                have HLT := Aside0.mk hlt
                have HXL := Aside0.mk (show xn < N by have := HNN.out.1; omega)
                have hxq := Aside0.mk hxn
                clear HP hlt hxn
                by_cases hx0 : (xn : Int) = 0
                · rw [if_pos hx0] at hp
                  have HP2 := Aside0.mk hp
                  have hxb : ((xn : Int) == 0) = true := beq_iff_eq.2 hx0
                  clear hp hx hx0
                  go_wp2_with fail
                  go_roundg (L.length - (i + 1))
                  case measure => have := HI.out; have := HLT.out; omega
                  case rel => exact ⟨F, gr, i + 1, rfl, by first | rfl | (rw [HWI.out]), ⟨by have := HI.out; have := HLT.out; omega⟩, HL, HFR, BK, HB, HP2⟩
                · rw [if_neg hx0] at hp
                  have hxb : ((xn : Int) == 0) = false := beq_eq_false_iff_ne.2 hx0
                  have hnx := nx_small H6.out (xn : Int)
                  have hc := spec_l03After.at_ w.heap.size A0 c0 H A1 c1 M (xn : Int) wr BK.out (Kd.C_below HR0.out HB.out) HC0.out (Kd.C_below HR1.out HB.out) HC1.out H6.out (by omega) (by have := HNN.out; omega)
                  generalize nx H M (xn : Int) = ys at hp hnx hc
                  obtain ⟨B, hB⟩ : ∃ B, B = bestF F ys 0 := ⟨_, rfl⟩
                  rw [← hB] at hp
                  have HP2 := Aside0.mk hp
                  have HBB := Aside0.mk hB
                  have HNX := Aside0.mk hnx
                  clear hp hB hnx hx hx0
                  go_wp2_with fail
                  refine hc.mono ?_
                  clear hc
                  rintro e w5 ⟨v7, rfl, r7, b7⟩
                  have RN := fa_box r7 (Below.size HB.out)
                  have HL5 := Aside0.mk (Kd.R_below HL.out b7)
                  have HF5 := Aside0.mk (Kd.R_below HFR.out b7)
                  have BK5 := Aside0.mk (blk_below BK.out b7)
                  have HB5 := Aside0.mk (below_step HB.out b7)
                  obtain ⟨A7, c7, rfl⟩ := Kd.R_slice RN
                  have HN5 := Aside0.mk RN
                  clear r7 b7 RN HL HFR BK HB hcell
                  go_wp2_with fail
                  go_loopg [13, 15] ys.length (fun gg s13 s15 wr => ∃ (b : Int) (kk q : Nat), s13 = .int .i64 b ∧ s15 = .int .i64 kk ∧ Aside0 (kk ≤ ys.length ∧ ys.length - kk ≤ gg) ∧ Aside0 (wr = w5.drewN q) ∧ Aside0 (B = bestF F (ys.drop kk) b))
                  case atStart => exact ⟨0, 0, 0, rfl, rfl, ⟨by omega⟩, ⟨rfl⟩, ⟨by rw [List.drop_zero]; exact HBB.out⟩⟩
                  case round =>
                    clear HBB
                    obtain ⟨b, kk, q, rfl, rfl, HK, HWR, HE⟩ := hrel
                    by_cases hk : kk < ys.length
                    · have hkz : (kk : Int) < (ys.length : Int) := by omega
                      obtain ⟨ady, ey, hcy⟩ := Kd.at_int (Kd.C_drewN (Kd.R_reads' HN5.out).2.2 q) (kk : Int) (by omega) hkz
                      subst ey
                      rw [show rd ys (kk : Int) = ys.getD kk 0 by unfold rd; rw [Int.toNat_natCast], Int.toNat_natCast, ← HWR.out] at hcy
                      have he := HE.out
                      rw [List.drop_eq_getElem_cons hk, show ys[kk] = ys.getD kk 0 by rw [List.getD_eq_getElem?_getD, List.getElem?_eq_getElem hk]; rfl, bestF] at he
                      have hy := getD_small HNX.out.1 kk hk
                      obtain ⟨yn, hyn⟩ : ∃ yn : Nat, ys.getD kk 0 = (yn : Int) := ⟨(ys.getD kk 0).toNat, by omega⟩
                      rw [hyn] at hcy he hy
                      rw [Int.toNat_natCast] at he
                      have hyN : yn < N := by have := HNN.out.1; omega
                      have hyz : (yn : Int) < (N : Int) := by omega
                      have hcf := (row_cell (Kd.R_drewN HF5.out q) yn hyN).1
                      rw [← HWR.out] at hcf
                      have hmx : spec_l00Max.f b (wrap64 (1 + F.getD yn 0)) = some (if b > wrap64 (1 + F.getD yn 0) then b else wrap64 (1 + F.getD yn 0)) := by
                        unfold spec_l00Max.f
                        split <;> rfl
                      have hm := spec_l00Max.calls b (wrap64 (1 + F.getD yn 0)) _ wr hmx
                      clear hmx
                      generalize (if b > wrap64 (1 + F.getD yn 0) then b else wrap64 (1 + F.getD yn 0)) = b2 at he hm
                      generalize F.getD yn 0 = fy at hcf hm
                      have HE2 := Aside0.mk he
                      have HW := Aside0.mk (show wrap64 ((kk : Int) + 1) = ((kk + 1 : Nat) : Int) by have := HNX.out.2; unfold wrap64; omega)
                      have HKL := Aside0.mk hk
                      clear HE he hk hy hyn hyN
                      go_wp2_with fail
                      refine hm.mono ?_
                      clear hm
                      rintro e w6 ⟨rfl, ⟨nd6, hd6⟩⟩
                      have HWR6 := Aside0.mk (show w6 = w5.drewN (q + nd6) by rw [hd6, HWR.out]; exact World.drewN_drewN _ _ _)
                      clear hd6 HWR hcy hcf hyz
                      go_wp2_with fail
                      go_roundg (ys.length - (kk + 1))
                      case measure => have := HK.out; have := HKL.out; omega
                      case rel => exact ⟨b2, kk + 1, q + nd6, rfl, by first | rfl | (rw [HW.out]), ⟨by have := HK.out; have := HKL.out; omega⟩, HWR6, HE2⟩
                    · obtain rfl : kk = ys.length := by have := HK.out; omega
                      have hkz : ¬ (ys.length : Int) < (ys.length : Int) := by omega
                      have he := HE.out
                      rw [List.drop_length, bestF] at he
                      subst he
                      clear HE hk
                      have hL6 := Kd.R_drewN HL5.out q
                      have hF6 := Kd.R_drewN HF5.out q
                      have hB6 := pw_below_drewN HB5.out q
                      have hK6 := blk_drewN BK5.out q
                      rw [← HWR.out] at hL6 hF6 hB6 hK6
                      have HL6 := Aside0.mk hL6
                      have HF6 := Aside0.mk hF6
                      have HB6 := Aside0.mk hB6
                      have BK6 := Aside0.mk hK6
                      have hcl := row_cell hL6 i HLT.out
                      have hcf := row_cell hF6 xn HXL.out
                      rw [hxq.out] at hcl
                      have hxz : (xn : Int) < (N : Int) := by have := HXL.out; omega
                      have hput := Kd.R_putg hF6 (xn : Int) B
                      clear hL6 hF6 hB6 hK6 HL5 HF5 HB5 BK5 HN5 HWR
                      rw [Int.toNat_natCast] at hput
                      have hgs := HB6.out.grown hput.2 (Below.size HB6.out) (fun k_ e_ => by cases e_; exact HGF.out)
                      have HB7 := Aside0.mk hgs
                      have HL7 := Aside0.mk (Kd.R_far HL6.out (p := ⟨gf, xn, none⟩) (fun k hk => hk) (.int .i64 B))
                      have HF7 := Aside0.mk hput.1
                      have BK7 := Aside0.mk ((hput.2.block w.heap.size (blk_lt BK6.out) (fun e => by have := Kd.R_ne HF6.out BK6.out (by decide); exact this e)).trans BK6.out)
                      obtain ⟨hcl1, hcl2⟩ := hcl
                      obtain ⟨hcf1, hcf2⟩ := hcf
                      obtain ⟨fx, hfx⟩ : ∃ fx, fx = F.getD xn 0 := ⟨_, rfl⟩
                      rw [← hfx] at hcf1
                      have hp2 := HP2.out
                      rw [← hfx] at hp2
                      clear hput hgs HL6 HF6 HB6 BK6 HP2 hfx
                      cases gr with
                      | true =>
                        rw [Bool.true_or] at hp2
                        have HP2 := Aside0.mk hp2
                        clear hp2
                        go_wp2_with fail
                        go_roundg (L.length - (i + 1))
                        case measure => have := HI.out; have := HLT.out; omega
                        case rel => exact ⟨F.set xn B, true, i + 1, rfl, by first | rfl | (rw [HWI.out]), ⟨by have := HI.out; have := HLT.out; omega⟩, HL7, HF7, BK7, HB7, HP2⟩
                      | false =>
                        rw [Bool.false_or] at hp2
                        by_cases hg : fx < B
                        · rw [decide_eq_true (show B > fx from hg)] at hp2
                          have HP2 := Aside0.mk hp2
                          clear hp2
                          go_wp2_with fail
                          go_roundg (L.length - (i + 1))
                          case measure => have := HI.out; have := HLT.out; omega
                          case rel => exact ⟨F.set xn B, true, i + 1, by first | rfl | simp [hg], by first | rfl | (rw [HWI.out]), ⟨by have := HI.out; have := HLT.out; omega⟩, HL7, HF7, BK7, HB7, HP2⟩
                        · rw [decide_eq_false (show ¬ B > fx from hg)] at hp2
                          have HP2 := Aside0.mk hp2
                          clear hp2
                          go_wp2_with fail
                          go_roundg (L.length - (i + 1))
                          case measure => have := HI.out; have := HLT.out; omega
                          case rel => exact ⟨F.set xn B, false, i + 1, by first | rfl | simp [hg], by first | rfl | (rw [HWI.out]), ⟨by have := HI.out; have := HLT.out; omega⟩, HL7, HF7, BK7, HB7, HP2⟩
              · obtain rfl : i = L.length := by have := HI.out; omega
                have hltz2 : ¬ (L.length : Int) < (L.length : Int) := by omega
                have hp := HP.out
                rw [Nat.sub_self, passF] at hp
                have hr := HR2.out
                rw [hp] at hr
                clear hp HP HR2 hlt
                cases gr with
                | true =>
                  rw [if_pos rfl] at hr
                  have HR3 := Aside0.mk hr
                  have HWR := Aside0.mk (show wrap64 ((rr : Int) + 1) = ((rr + 1 : Nat) : Int) by have := HG.out; have := HN1.out; unfold wrap64; omega)
                  clear hr
                  go_wp2_with fail
                  go_roundg d
                  case measure => omega
                  case rel => exact ⟨F, rr + 1, by first | rfl | (rw [HWR.out]), ⟨by have := HG.out; omega⟩, HL, HFR, BK, HB, HR3⟩
                | false =>
                  rw [if_neg (show ¬ ((F, false) : List Int × Bool).2 = true by simp)] at hr
                  obtain ⟨rfl, rfl⟩ := Prod.mk.inj hr
                  obtain ⟨fn, hfn, hfN⟩ : ∃ fn : Nat, full = (fn : Int) ∧ fn < N := ⟨full.toNat, by have := HFU2.out; have := HNN.out; omega, by have := HFU2.out; have := HNN.out; omega⟩
                  subst hfn
                  have hcf := (row_cell HFR.out fn hfN).1
                  have hfz : (fn : Int) < (N : Int) := by omega
                  clear hr
                  go_wp2_with fail
                  go_ret2
                  exact ⟨by first | rfl | (simp [List.getD_eq_getElem?_getD]; done), HB.out⟩
def spec_ForgetAfter.ok (k : Nat) (l0_0 : List (List Int)) (l0_1 : List Int) : Bool := (spec_l03Order.f k l0_1 (l0_1.length : Int)).isSome && l0_0.all fun x => (spec_l03Order.f k x (l0_1.length : Int)).isSome
def spec_ForgetAfter.f (k : Nat) (l0_0 : List (List Int)) (l0_1 : List Int) : Option (Int × Bool) := if spec_ForgetAfter.ok k l0_0 l0_1 = true then (if l3is k l0_0 l0_1 = true then (if Six l0_0 l0_1 then specFA l0_0 l0_1 else none) else some (0, false)) else none
theorem spec_ForgetAfter.mono : ∀ a0 a1 k, LeO (spec_ForgetAfter.f k a0 a1) (spec_ForgetAfter.f (k + 1) a0 a1) := by
  intro a0 a1 k r h
  unfold spec_ForgetAfter.f spec_ForgetAfter.ok at h ⊢
  have st : ∀ x n, (spec_l03Order.f k x n).isSome = true → spec_l03Order.f (k + 1) x n = spec_l03Order.f k x n := fun x n hs => by
    obtain ⟨b, hb⟩ := Option.isSome_iff_exists.1 hs
    rw [hb]; exact spec_l03Order.mono _ _ _ _ hb
  by_cases c : ((spec_l03Order.f k a1 (a1.length : Int)).isSome && a0.all fun x => (spec_l03Order.f k x (a1.length : Int)).isSome) = true
  · rw [if_pos c] at h
    rw [Bool.and_eq_true, List.all_eq_true] at c
    have e1 := st a1 (a1.length : Int) c.1
    have e2 : ∀ x ∈ a0, spec_l03Order.f (k + 1) x (a1.length : Int) = spec_l03Order.f k x (a1.length : Int) := fun x hx => st x _ (c.2 x hx)
    have e3 : l3is (k + 1) a0 a1 = l3is k a0 a1 := by
      have e4 : (a0.all fun x => l3o (k + 1) x (a1.length : Int)) = (a0.all fun x => l3o k x (a1.length : Int)) := by
        rw [Bool.eq_iff_iff, List.all_eq_true, List.all_eq_true]
        refine forall_congr' fun x => forall_congr' fun hx => ?_
        unfold l3o; rw [e2 x hx]
      unfold l3is
      rw [e4]
      unfold l3o
      rw [e1]
    rw [if_pos (by
      rw [Bool.and_eq_true, List.all_eq_true]
      exact ⟨by rw [e1]; exact c.1, fun x hx => by rw [e2 x hx]; exact c.2 x hx⟩), e3]
    exact h
  · rw [if_neg c] at h; cases h
set_option maxHeartbeats 8000000 in
set_option maxRecDepth 100000 in
theorem spec_ForgetAfter.calls (k : Nat) (A0_0 : Option Addr) (c0_0 : Nat) (l0_0 : List (List Int)) (A0_1 : Option Addr) (c0_1 : Nat) (l0_1 : List Int) (r1 : Int) (r2 : Bool) (w : World) (hr0_0 : Kd.C (Kd.slice 2 (Kd.int .i64)) w A0_0 l0_0.length l0_0) (hc0_0 : l0_0.length ≤ c0_0) (hr0_1 : Kd.C (Kd.int .i64) w A0_1 l0_1.length l0_1) (hc0_1 : l0_1.length ≤ c0_1) (h : spec_ForgetAfter.f k l0_0 l0_1 = some (r1, r2)) :
    Calls Try.prog 48 #[.agg #[.slice A0_0 l0_0.length c0_0, .slice A0_1 l0_1.length c0_1]] w fun e w' => e = .returned (.tuple #[.int .i64 r1, .bool r2]) ∧ Below w.heap.size w w' := by
  unfold spec_ForgetAfter.f at h
  by_cases c : spec_ForgetAfter.ok k l0_0 l0_1 = true
  case neg => rw [if_neg c] at h; cases h
  rw [if_pos c] at h
  unfold spec_ForgetAfter.ok at c
  rw [Bool.and_eq_true, List.all_eq_true] at c
  by_cases hv : l3is k l0_0 l0_1 = true
  · rw [if_pos hv] at h
    by_cases h6 : Six l0_0 l0_1
    case neg => rw [if_neg h6] at h; cases h
    rw [if_pos h6] at h
    exact spec_ForgetAfter.at_ k A0_0 c0_0 l0_0 A0_1 c0_1 l0_1 r1 r2 w hr0_0 hc0_0 hr0_1 hc0_1 c.1 c.2 hv h6 h
  · rw [if_neg hv] at h
    obtain ⟨rfl, rfl⟩ := Prod.mk.inj (Option.some.inj h)
    have hbl := blk_new w (.cells #[.slice A0_0 l0_0.length c0_0, .slice A0_1 l0_1.length c0_1] 42)
    have HC := spec_l03Is.at_ k w.heap.size A0_0 c0_0 l0_0 A0_1 c0_1 l0_1 _ hbl (Kd.C_alloc hr0_0 _) hc0_0 (Kd.C_alloc hr0_1 _) hc0_1 c.1 c.2
    rw [Bool.eq_false_iff.2 hv] at HC
    have HB1 := Aside0.mk (below_alloc (Below.refl w.heap.size w) (.cells #[.slice A0_0 l0_0.length c0_0, .slice A0_1 l0_1.length c0_1] 42))
    clear hbl c h hv hr0_0 hr0_1
    go_enter Try.func48, Try.ntmps48
    go_wp2_with fail
    refine HC.mono ?_
    clear HC
    rintro e w' ⟨rfl, ⟨nd, rfl⟩⟩
    go_wp2_with fail
    go_ret2
    exact ⟨rfl, pw_below_drewN HB1.out nd⟩


/-! ### impl_length_int64_55: function 55 -/
def impl_length_int64_55.f (l0 : List Int) : Option (Int) := some (l0.length : Int)
set_option maxHeartbeats 8000000 in
set_option maxRecDepth 100000 in
theorem impl_length_int64_55.calls (A0 : Option Addr) (c0 : Nat) (l0 : List Int) (r : Int) (w : World) (hr0 : Kd.C (Kd.int .i64) w A0 l0.length l0) (hc0 : l0.length ≤ c0) (h : impl_length_int64_55.f l0 = some r) :
    Calls Try.prog 55 #[.slice A0 l0.length c0] w fun e w' => e = .returned (.int .i64 r) ∧ Drawn0 w w' := by
  have HR0 := Aside0.mk hr0
  have HC0 := Aside0.mk hc0
  clear hr0 hc0
  have H : (some (l0.length : Int)) = some r := h
  clear h
  obtain rfl := Option.some.inj H
  go_enter Try.func55, Try.ntmps55
  go_wp2
  go_ret
  exact ⟨by first | rfl | (simp; done) | (simp [*]; done), by repeat (first | exact Drawn0.refl _ | apply Drawn0.step)⟩

/-! ### impl_inRange: function 54 -/
def impl_inRange.f (a0 : Int) (a1 : Int) (a2 : Int) : Option (Bool) := if a1 ≤ a0 then (some (decide (a0 ≤ a2))) else (some false)
set_option maxHeartbeats 8000000 in
set_option maxRecDepth 100000 in
theorem impl_inRange.calls (a0 : Int) (a1 : Int) (a2 : Int) (r : Bool) (w : World) (h : impl_inRange.f a0 a1 a2 = some r) :
    Calls Try.prog 54 #[.int .i64 a0, .int .i64 a1, .int .i64 a2] w fun e w' => e = .returned (.bool r) ∧ Drawn0 w w' := by
  have H : (if a1 ≤ a0 then (some (decide (a0 ≤ a2))) else (some false)) = some r := h
  clear h
  by_cases c4 : a1 ≤ a0
  · rw [if_pos c4] at H
    have c4b0 : decide (a1 ≤ a0) = true := decide_eq_true c4
    clear c4
    obtain rfl := Option.some.inj H
    go_enter Try.func54, Try.ntmps54
    go_wp2
    go_ret
    exact ⟨by first | rfl | (simp; done) | (simp [*]; done), by repeat (first | exact Drawn0.refl _ | apply Drawn0.step)⟩
  · rw [if_neg c4] at H
    have c4b0 : decide (a1 ≤ a0) = false := decide_eq_false c4
    clear c4
    obtain rfl := Option.some.inj H
    go_enter Try.func54, Try.ntmps54
    go_wp2
    go_ret
    exact ⟨by first | rfl | (simp; done) | (simp [*]; done), by repeat (first | exact Drawn0.refl _ | apply Drawn0.step)⟩

/-! ### impl_isWays: function 67 -/
def impl_isWays.f (a0 : Int) : Option (Bool) := (impl_inRange.f a0 1 6).bind fun t137 => (some t137)
set_option maxHeartbeats 8000000 in
set_option maxRecDepth 100000 in
theorem impl_isWays.calls (a0 : Int) (r : Bool) (w : World) (h : impl_isWays.f a0 = some r) :
    Calls Try.prog 67 #[.int .i64 a0] w fun e w' => e = .returned (.bool r) ∧ Drawn0 w w' := by
  have H : ((impl_inRange.f a0 1 6).bind fun t137 => (some t137)) = some r := h
  clear h
  replace H := Option.bind_eq_some_iff.mp H
  obtain ⟨t137, A20, H⟩ := H
  replace H : (some t137) = some r := H
  have A2 := Aside0.mk A20
  clear A20
  obtain rfl := Option.some.inj H
  go_enter Try.func67, Try.ntmps67
  go_wp2_with (first | ((with_reducible refine gate_callee (f := 54) rfl ?_); refine goesL_ (some 4) rfl rfl Try.func54 (by kernel_rfl) rfl #[.int .i64 a0, .int .i64 1, .int .i64 6] rfl (by (try simp only [List.map_toArray, List.map_cons, List.map_nil]); first | done | rfl | (simp only [List.length_drop, List.length_take]; rfl)) ?_; (with_reducible refine (impl_inRange.calls a0 1 6 t137 _ A2.out).mono ?_); rintro e w' ⟨rfl, ⟨nd, rfl⟩⟩; refine ⟨_, rfl, ?_⟩))
  go_ret
  exact ⟨by first | rfl | (simp; done) | (simp [*]; done), by repeat (first | exact Drawn0.refl _ | apply Drawn0.step)⟩

end Go.Proofs.Yteoacngaicchiaa.PFnExactForgetAfter
