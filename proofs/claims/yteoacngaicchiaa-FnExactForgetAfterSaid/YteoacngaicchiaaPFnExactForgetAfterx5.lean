-- WRITTEN BY wip/xprint.py out of the translation, with contracts of mine put in: Lean checks it.
import Derived.Test.YteoacngaicchiaaPFnExactForgetAfterx0
import Derived.Test.YteoacngaicchiaaPFnExactForgetAfterx3
import Derived.Test.YteoacngaicchiaaPFnExactForgetAfterx4
namespace Go.Proofs.Yteoacngaicchiaa.PFnExactForgetAfter
open Go.RowKit Go.Proofs.YteoacngaicchiaaW.PrintWords Go.Proofs.YteoacngaicchiaaW.PrintLast Go.Proofs.YteoacngaicchiaaW.PrintMore
attribute [local go_sem] max2_int min2_int max_two min_two max_three min_three max_four min_four   -- for this text's walks alone
set_option linter.unusedVariables false
set_option linter.unusedSimpArgs false

/-! ### impl_forgetting_longest: function 88: by hand -/
theorem perm_l (mask wo pm : Int) (ages : List Int) (h1 : 0 ≤ mask) (h2 : mask < 64) (hA : ∀ a ∈ ages, 0 ≤ a ∧ a < 6) (hl : ages.length ≤ 6) (h5 : 0 ≤ wo) (h6 : wo < 6) (hpm : ∀ a : Int, 0 ≤ a → a < 6 → Go.bits .and .i64 (shr .i64 pm a) 1 = (if a = wo then 0 else bitAt mask a)) : ∀ (d i : Nat) (o : Int), ages.length - i < d → i ≤ ages.length → 0 ≤ o → o < 2 ^ i →
    impl_permutedMask.l0 d pm o ages (ages.length : Int) (i : Int) = some (mvd mask wo (ages.drop i) i o)
  | 0, _, _, h, _, _, _ => absurd h (Nat.not_lt_zero _)
  | d + 1, i, o, h, hi, h0, ho => by
    rw [impl_permutedMask.l0]
    by_cases c : i < ages.length
    · have e : ages.drop i = rd ages (i : Int) :: ages.drop (i + 1) := by
        rw [List.drop_eq_getElem_cons c]
        unfold rd
        rw [Int.toNat_natCast, List.getD_eq_getElem?_getD, List.getElem?_eq_getElem c]
        rfl
      have hm : rd ages (i : Int) ∈ ages := by
        unfold rd
        rw [Int.toNat_natCast, List.getD_eq_getElem?_getD, List.getElem?_eq_getElem c]
        exact List.getElem_mem _
      obtain ⟨ha1, ha2⟩ := hA _ hm
      have hp := pow_cases i (by omega)
      have w1 : wrap64 ((i : Int) + 1) = ((i + 1 : Nat) : Int) := by unfold wrap64; omega
      rw [if_pos (by omega), if_pos (by omega), if_pos (by omega), e, mvd]
      generalize rd ages (i : Int) = a at ha1 ha2 ⊢
      rw [w1, if_pos ha1, hpm a ha1 ha2]
      have hor := or_tells o i h0 (by omega) (by omega)
      by_cases q : a = wo
      · rw [if_pos q, if_pos q, hor.1]
        exact perm_l mask wo pm ages h1 h2 hA hl h5 h6 hpm d (i + 1) o (by omega) (by omega) h0 (by omega)
      · rw [if_neg q, if_neg q]
        rcases bit_tells mask a h1 h2 ha1 ha2 with b | b
        · rw [b, if_neg (by decide), hor.1]
          exact perm_l mask wo pm ages h1 h2 hA hl h5 h6 hpm d (i + 1) o (by omega) (by omega) h0 (by omega)
        · rw [b, if_pos rfl, hor.2 ho]
          exact perm_l mask wo pm ages h1 h2 hA hl h5 h6 hpm d (i + 1) _ (by omega) (by omega) (by omega) (by omega)
    · rw [if_neg (by omega), List.drop_eq_nil_of_le (by omega)]
      rfl
theorem perm_at (mask wo pm : Int) (A : Option Addr) (c : Nat) (ages : List Int) (h1 : 0 ≤ mask) (h2 : mask < 64) (hA : ∀ a ∈ ages, 0 ≤ a ∧ a < 6) (hl : ages.length ≤ 6) (h5 : 0 ≤ wo) (h6 : wo < 6) (hpm : pm = Go.bits .andNot .i64 mask (shl .i64 1 wo)) (w : World) (hr : Kd.C (Kd.int .i64) w A ages.length ages) (hc : ages.length ≤ c) :
    Calls Try.prog 107 #[.int .i64 pm, .slice A ages.length c] w fun e w' => e = .returned (.int .i64 (mvd mask wo ages 0 0)) ∧ Drawn0 w w' :=
  impl_permutedMask.calls (ages.length + 1) pm A c ages _ w hr hc (perm_l mask wo pm ages h1 h2 hA hl h5 h6 (fun a g1 g2 => by have := andnot_tells mask a wo h1 h2 g1 g2 h5 h6; rw [← hpm] at this; exact this) (ages.length + 1) 0 0 (by omega) (by omega) (by omega) (by decide))
/-- What a call of longest gives: the number, whether it is one, what is known then, what is open then. -/
structure Got where
  n : Int
  ok : Bool
  kn : Int → Option Int
  op : Int → Bool
/-- The calls for the sets behind one more use. -/
def lpF (rec : Int → (Int → Option Int) → (Int → Bool) → Option Got) : List Int → Int → (Int → Option Int) → (Int → Bool) → Option Got
  | [], most, kn, op => some ⟨most, true, kn, op⟩
  | y :: l, most, kn, op => (rec y kn op).bind fun r => if r.ok = true then lpF rec l (max most (wrap64 (r.n + 1))) r.kn r.op else some ⟨0, false, r.kn, r.op⟩
/-- longest, depth by depth. -/
def dfsF (N : Int → List Int) : Nat → Int → (Int → Option Int) → (Int → Bool) → Option Got
  | 0, _, _, _ => none
  | d + 1, m, kn, op => if m = 0 then some ⟨0, true, kn, op⟩ else
      match kn m with
      | some v => some ⟨v, true, kn, op⟩
      | none => if op m = true then some ⟨0, false, kn, op⟩ else
        (lpF (dfsF N d) (N m) 0 kn (Far.upd op m true)).bind fun r => if r.ok = true then some ⟨r.n, true, Far.upd r.kn m (some r.n), Far.upd r.op m false⟩ else some ⟨0, false, r.kn, r.op⟩
theorem shl_one (n : Nat) : shl .i64 1 (n : Int) = wrap64 (2 ^ min n 64) := by
  unfold shl
  rw [Int.toNat_natCast, Int.one_mul, i64_w]
  rfl
theorem lg_box {e : Nat} {w0 w1 : World} {base : Nat} {v : Value} {xs : List Int} (h : Kd.R (Kd.int .i64) e w1 w0.heap.size (fun _ => True) v xs) (hb : base ≤ w0.heap.size) : Kd.R (Kd.int .i64) e w1 base (fun k => w0.heap.size ≤ k ∧ k < w1.heap.size) v xs :=
  Kd.R_lower (Kd.R_mono (Kd.R_bound h) (fun _ hk => ⟨hk.2.1, hk.2.2.1⟩)) hb
theorem impl_forgetting_longest.info2 : (Try.prog.info? 2).map (fun i => (i.zero, i.size, i.bytes)) = some (some (.int .i64 0), 1, 8) := by kernel_rfl
set_option maxHeartbeats 8000000 in
set_option maxRecDepth 100000 in
theorem impl_forgetting_longest.at_ (w0 : World) (A0 : Option Addr) (c0 : Nat) (H : List (List Int)) (A1 : Option Addr) (c1 : Nat) (M : List Int) (hr0 : Kd.C (Kd.slice 2 (Kd.int .i64)) w0 A0 H.length H) (hc0 : H.length ≤ c0) (hr1 : Kd.C (Kd.int .i64) w0 A1 M.length M) (hc1 : M.length ≤ c1) (h6 : Six H M)
    (fb kb ob : Nat) (hkb : w0.heap.size ≤ kb) (hob : w0.heap.size ≤ ob) (hko : kb ≠ ob) :
    ∀ (d : Nat) (m : Int) (kn : Int → Option Int) (op : Int → Bool) (r : Got) (w : World), dfsF (nx H M) d m kn op = some r → 0 ≤ m → m < 64 →
      w.heap[fb]? = some (.cells #[.slice A0 H.length c0, .slice A1 M.length c1, .map (some kb), .map (some ob)] 82 (0, 0)) → Far.KnAt w kb kn → Far.OpAt w ob op → Below w0.heap.size w0 w →
      Calls Try.prog 88 #[.pointer (some ⟨fb, 0, none⟩), .int .i64 m] w fun e w' => e = .returned (.tuple #[.int .i64 r.n, .bool r.ok]) ∧ Far.KnAt w' kb r.kn ∧ Far.OpAt w' ob r.op ∧ w'.heap[fb]? = some (.cells #[.slice A0 H.length c0, .slice A1 M.length c1, .map (some kb), .map (some ob)] 82 (0, 0)) ∧ Below w0.heap.size w0 w' ∧ Kept w w' (fun k => k = kb ∨ k = ob) := by
  intro d
  induction d with
  | zero => intro m kn op r w h; exact absurd h (by simp [dfsF])
  | succ d ih =>
    intro m kn op r w h hm0 hm1 hfb hkn hop hB
    have hu42 := Try.underlying42
    have hu82 := Try.underlying82
    rw [dfsF] at h
    have c2 := (blk_cell hfb 2).trans rfl
    have c3 := (blk_cell hfb 3).trans rfl
    have HFB := Aside0.mk hfb
    have HKN := Aside0.mk hkn
    have HOP := Aside0.mk hop
    have HB := Aside0.mk hB
    have hlks : kb < w.heap.size ∧ ob < w.heap.size := ⟨by obtain ⟨D, h_, _⟩ := hkn; exact h_.lt, by obtain ⟨D, h_, _⟩ := hop; exact h_.lt⟩
    have HM := Aside0.mk (And.intro hm0 hm1)
    have IH := Aside0.mk ih
    clear ih hfb hkn hop hB hm0 hm1
    by_cases hz : m = 0
    · rw [if_pos hz] at h
      obtain rfl := Option.some.inj h
      subst hz
      clear c2 c3 h
      go_enter Try.func88, Try.ntmps88
      go_wp2
      go_ret2
      exact ⟨rfl, HKN.out, HOP.out, HFB.out, HB.out, Kept.refl _ _⟩
    · rw [if_neg hz] at h
      have hzb : (m == 0) = false := beq_eq_false_iff_ne.2 hz
      clear hz
      cases hk : kn m with
      | some v =>
        rw [hk] at h
        obtain rfl := Option.some.inj h
        have HK := Aside0.mk hk
        clear hk h
        go_enter Try.func88, Try.ntmps88
        go_wp2_with (first | (at_lookup; refine Far.look_kn _ rfl _ _ _ rfl Try.underlying79 kb kn rfl HKN.out m rfl HM.out.1 HM.out.2 ?_; rw [HK.out]; simp only [Option.isSome_some, Option.getD_some]))
        go_ret2
        exact ⟨rfl, HKN.out, HOP.out, HFB.out, HB.out, Kept.refl _ _⟩
      | none =>
        rw [hk] at h
        dsimp only at h
        have HK := Aside0.mk hk
        clear hk
        cases ho : op m with
        | true =>
          rw [ho, if_pos rfl] at h
          obtain rfl := Option.some.inj h
          have HO := Aside0.mk ho
          clear ho h
          go_enter Try.func88, Try.ntmps88
          go_wp2_with (first | (at_lookup; first | (refine Far.look_kn _ rfl _ _ _ rfl Try.underlying79 kb kn rfl HKN.out m rfl HM.out.1 HM.out.2 ?_; rw [HK.out]; simp only [Option.isSome_none, Option.getD_none]) | (refine Far.look_op _ rfl _ _ _ rfl Try.underlying80 ob op rfl HOP.out m rfl HM.out.1 HM.out.2 ?_; rw [HO.out])))
          go_ret2
          exact ⟨rfl, HKN.out, HOP.out, HFB.out, HB.out, Kept.refl _ _⟩
        | false =>
          rw [ho, if_neg (by decide)] at h
          obtain ⟨r2, h2, h3⟩ := Option.bind_eq_some_iff.mp h
          have HO := Aside0.mk ho
          have H2 := Aside0.mk h2
          have H3 := Aside0.mk h3
          clear ho h h2 h3
          go_enter Try.func88, Try.ntmps88
          go_wp2_with (first | (at_lookup; first | (refine Far.look_kn _ rfl _ _ _ rfl Try.underlying79 kb kn rfl HKN.out m rfl HM.out.1 HM.out.2 ?_; rw [HK.out]; simp only [Option.isSome_none, Option.getD_none]) | (refine Far.look_op _ rfl _ _ _ rfl Try.underlying80 ob op rfl HOP.out m rfl HM.out.1 HM.out.2 ?_; rw [HO.out])) | (at_mapUpdate; refine Far.put_op _ rfl _ _ _ _ rfl Try.underlying80 ob op rfl HOP.out m true rfl rfl HM.out.1 HM.out.2 ?_; intro w1 ho1 hg1; have HOP1 := Aside0.mk ho1; have HKN1 := Aside0.mk (HKN.out.kept hg1 (fun e => hko (by injection e))); have HFB1 := Aside0.mk ((hg1.block fb (blk_lt HFB.out) (fun e => by injection e with e; subst e; obtain ⟨_, ⟨_, _, hb_, _⟩, _⟩ := HOP.out; rw [HFB.out] at hb_; cases hb_)).trans HFB.out); have HB1 := Aside0.mk (HB.out.grown hg1 (Below.size HB.out) (fun k_ e_ => by cases e_; exact hob)); have HSZ1 := Aside0.mk (Kept.of_grown hg1 (Kept.refl w (fun k => k = kb ∨ k = ob)) (fun k_ e_ => .inl (.inr (by injection e_ with e_; exact e_.symm)))); clear ho1 hg1 HOP HKN HFB HB c2 c3; have e0_ := (blk_cell HFB1.out 0).trans rfl; have e1_ := (blk_cell HFB1.out 1).trans rfl))
          refine (impl_Policy_ways.calls A0 c0 H A1 c1 M (M.length : Int) w1 (Kd.C_below hr0 HB1.out) hc0 (Kd.C_below hr1 HB1.out) hc1 rfl).mono ?_
          rintro e w2 ⟨rfl, b2⟩
          have HKN2 := Aside0.mk (HKN1.out.kept (grown_of_below b2 none) (by simp))
          have HOP2 := Aside0.mk (HOP1.out.kept (grown_of_below b2 none) (by simp))
          have HFB2 := Aside0.mk (blk_below HFB1.out b2)
          have HB2 := Aside0.mk (below_step HB1.out b2)
          have HSZ2 := Aside0.mk (HSZ1.out.below b2)
          clear b2 HKN1 HOP1 HFB1 HB1 HSZ1 e0_ e1_
          have mixed : Try.prog.follows .mixedOrders = true := by kernel_rfl
          obtain ⟨n1, hn1⟩ : ∃ n1 : Nat, n1 = M.length - 1 := ⟨_, rfl⟩
          have hwn : wrap64 ((M.length : Int) - 1) = (n1 : Int) := by have := h6.1; unfold wrap64; omega
          have HPM := Aside0.mk (show Go.bits .andNot .i64 m (wrap64 (2 ^ min n1 64)) = Go.bits .andNot .i64 m (shl .i64 1 ((M.length : Int) - 1)) by rw [show (M.length : Int) - 1 = (n1 : Int) by have := h6.1; omega]; exact congrArg _ (shl_one n1).symm)
          have HN1 := Aside0.mk hn1
          clear hn1
          have HLT := Aside0.mk (show kb < w.heap.size ∧ ob < w.heap.size from hlks)
          go_wp2_with fail
          --@R10
          refine start_ (n := 13) (S := fun w' => w'.cell? ⟨fb, 1, none⟩ = some (.slice A1 M.length c1)) (ds := []) #[false, false, false, false, false, false, false, false, false, false, false, false, false] (by kernel_rfl) rfl rfl ((blk_cell HFB2.out 1).trans rfl) (fun hHeld => ?_)
          have HKN2 := Aside0.mk (HKN2.out.kept (w' := w2.drew) (grown_of_below (below_drew1 (Below.refl _ _)) none) (by simp))
          have HOP2 := Aside0.mk (HOP2.out.kept (w' := w2.drew) (grown_of_below (below_drew1 (Below.refl _ _)) none) (by simp))
          have HFB2 := Aside0.mk (blk_drew HFB2.out)
          have HB2 := Aside0.mk (below_drew1 HB2.out)
          have HSZ2 := Aside0.mk HSZ2.out.drew
          generalize w2.drew = w3 at HKN2 HOP2 HFB2 HB2 HSZ2 hHeld ⊢
          refine pure_ (i := 0) (N := some 45) (v := ?_) (a' := ?_) #[true, false, false, false, false, false, false, false, false, false, false, false, false] rfl rfl (by kernel_rfl) (fun _ _ _ h => h) (Or.inl ⟨by rfl, ?_⟩) ?_ ?_
          rotate_left
          · intro w'
            go_simp
            with_reducible rfl
          rotate_left
          · simp only [Act.put, List.setIfInBounds_toArray, List.set_cons_zero, List.set_cons_succ, i64_w, i32_w]
            rfl
          refine pure_ (i := 1) (N := some 46) (v := ?_) (a' := ?_) #[true, true, false, false, false, false, false, false, false, false, false, false, false] rfl rfl (by kernel_rfl) (fun _ _ _ h => h) (Or.inl ⟨by rfl, ?_⟩) ?_ ?_
          rotate_left
          · intro w'
            go_simp
            with_reducible rfl
          rotate_left
          · simp only [Act.put, List.setIfInBounds_toArray, List.set_cons_zero, List.set_cons_succ, i64_w, i32_w]
            rfl
          refine pure_ (i := 2) (N := some 47) (v := ?_) (a' := ?_) #[true, true, true, false, false, false, false, false, false, false, false, false, false] rfl rfl (by kernel_rfl) (fun _ _ _ h => h) (Or.inl ⟨by rfl, ?_⟩) ?_ ?_
          rotate_left
          · intro w'
            go_simp
            with_reducible rfl
          rotate_left
          · simp only [Act.put, List.setIfInBounds_toArray, List.set_cons_zero, List.set_cons_succ, i64_w, i32_w]
            rfl
          refine pure_ (i := 3) (N := some 48) (v := ?_) (a' := ?_) #[true, true, true, true, false, false, false, false, false, false, false, false, false] rfl rfl (by kernel_rfl) (fun _ _ _ h => h) (Or.inl ⟨by rfl, ?_⟩) ?_ ?_
          rotate_left
          · intro w'
            go_simp
            with_reducible rfl
          rotate_left
          · simp only [Act.put, List.setIfInBounds_toArray, List.set_cons_zero, List.set_cons_succ, i64_w, i32_w]
            rfl
          refine pure_ (i := 4) (N := some 49) (v := ?_) (a' := ?_) #[true, true, true, true, true, false, false, false, false, false, false, false, false] rfl rfl (by kernel_rfl) (fun _ _ _ h => h) (Or.inl ⟨by rfl, ?_⟩) ?_ ?_
          rotate_left
          · intro w'
            go_simp
            with_reducible rfl
          rotate_left
          · simp only [Act.put, List.setIfInBounds_toArray, List.set_cons_zero, List.set_cons_succ, i64_w, i32_w]
            rfl
          refine pure_ (i := 5) (N := some 50) (v := ?_) (a' := ?_) #[true, true, true, true, true, true, false, false, false, false, false, false, false] rfl rfl (by kernel_rfl) (fun _ _ _ h => h) (Or.inl ⟨by rfl, ?_⟩) ?_ ?_
          rotate_left
          · intro w'
            go_simp
            with_reducible rfl
          rotate_left
          · simp only [Act.put, List.setIfInBounds_toArray, List.set_cons_zero, List.set_cons_succ, i64_w, i32_w]
            rfl
          refine pure_ (i := 6) (N := some 51) (v := ?_) (a' := ?_) #[true, true, true, true, true, true, true, false, false, false, false, false, false] rfl rfl (by kernel_rfl) (fun _ _ _ h => h) (Or.inl ⟨by rfl, ?_⟩) ?_ ?_
          rotate_left
          · intro w'
            go_simp
            with_reducible rfl
          rotate_left
          · simp only [Act.put, List.setIfInBounds_toArray, List.set_cons_zero, List.set_cons_succ, i64_w, i32_w]
            rfl
          refine pure_ (i := 7) (N := some 52) (v := ?_) (a' := ?_) #[true, true, true, true, true, true, true, true, false, false, false, false, false] rfl rfl (by kernel_rfl) (fun _ _ _ h => h) (Or.inl ⟨by rfl, ?_⟩) ?_ ?_
          rotate_left
          · intro w'
            go_simp
            with_reducible rfl
          rotate_left
          · simp only [Act.put, List.setIfInBounds_toArray, List.set_cons_zero, List.set_cons_succ, i64_w, i32_w]
            rfl
          refine pure_ (i := 8) (N := some 53) (v := ?_) (a' := ?_) #[true, true, true, true, true, true, true, true, true, false, false, false, false] rfl rfl (by kernel_rfl) (fun _ _ _ h => h) (Or.inl ⟨by rfl, ?_⟩) ?_ ?_
          rotate_left
          · intro w'
            go_simp
            with_reducible rfl
          rotate_left
          · simp only [Act.put, List.setIfInBounds_toArray, List.set_cons_zero, List.set_cons_succ, i64_w, i32_w]
            rfl
          refine take_ (i := 9) (N := some 54) (v := ?_) (a' := ?_) #[true, true, true, true, true, true, true, true, true, true, false, false, false] rfl rfl (by kernel_rfl) (fun _ _ _ h => h) (Or.inl ⟨by rfl, ?_⟩) hHeld ?_ ?_
          rotate_left
          · rintro w' s0
            go_simp
            with_reducible rfl
          rotate_left
          · simp only [Act.put, List.setIfInBounds_toArray, List.set_cons_zero, List.set_cons_succ, i64_w, i32_w]
            rfl
          refine one_ (i := 10) (N := some 55) #[true, true, true, true, true, true, true, true, true, true, true, false, false] rfl rfl (by kernel_rfl) (by decide) (fun K hK => ?_)
          refine goes_ Try.func107 (by kernel_rfl) rfl #[.int .i64 (Go.bits .andNot .i64 m (wrap64 (2 ^ min n1 64))), .slice A1 M.length c1] (by rfl) rfl rfl (by (try simp only [List.map_toArray, List.map_cons, List.map_nil]); first | done | rfl) ?_
          refine (perm_at m ((M.length : Int) - 1) (Go.bits .andNot .i64 m (wrap64 (2 ^ min n1 64))) A1 c1 M HM.out.1 HM.out.2 h6.2.2.1 h6.1.2 (by have := h6.1; omega) (by have := h6.1; omega) HPM.out w3 (Kd.C_below hr1 HB2.out) hc1).mono ?_
          rintro e w4 ⟨rfl, hd⟩
          refine ⟨_, rfl, ?_⟩
          have b4 := Drawn0.below hd
          have HKN3 := Aside0.mk (HKN2.out.kept (grown_of_below b4 none) (by simp))
          have HOP3 := Aside0.mk (HOP2.out.kept (grown_of_below b4 none) (by simp))
          have HFB3 := Aside0.mk (blk_below HFB2.out b4)
          have HB3 := Aside0.mk (below_step HB2.out b4)
          have HSZ3 := Aside0.mk (HSZ2.out.below b4)
          clear b4 hd HKN2 HOP2 HFB2 HB2 HSZ2
          refine hK.out _ _ ((blk_cell HFB3.out 1).trans rfl) (fun hHeld => ?_)
          clear hK K
          refine norm_ (a' := ?_) ?_ ?_
          rotate_left
          · show Act.put _ (some 55) _ = _
            simp only [Act.put, List.setIfInBounds_toArray, List.set_cons_zero, List.set_cons_succ, i64_w, i32_w]
            rfl
          refine one_ (i := 11) (N := some 56) #[true, true, true, true, true, true, true, true, true, true, true, true, false] rfl rfl (by kernel_rfl) (by decide) (fun K hK => ?_)
          refine Kd.R_lit_step (Kd.int .i64) (w0 := w4) w4.heap.size 2 (by rfl) (N := 56) rfl (xs := ([mvd m ((M.length : Int) - 1) M 0 0] : List Int)) (inner := [.int .i64 (mvd m ((M.length : Int) - 1) M 0 0)]) (ok := fun _ => True) (okp := fun _ => True) ?hr ?hp (fun _ hk => hk) trivial (Below.refl _ _) (Nat.le_refl _) (by simp) ?_
          (case hr => first | (go_simp; done) | (go_simp; rfl))
          (case hp => exact (Reps.one (show Kd.M (Kd.int .i64) _ _ _ _ [.int .i64 (mvd m ((M.length : Int) - 1) M 0 0)] from rfl) (Reps.none _ _)))
          intro v9 w5 ho5 hb5 _ _
          have HN := Aside0.mk (lg_box ho5 (Nat.le_refl _))
          have HKN4 := Aside0.mk (HKN3.out.kept (grown_of_below hb5 none) (by simp))
          have HOP4 := Aside0.mk (HOP3.out.kept (grown_of_below hb5 none) (by simp))
          have HFB4 := Aside0.mk (blk_below HFB3.out hb5)
          have HB4 := Aside0.mk (below_step HB3.out hb5)
          have HSZ4 := Aside0.mk (HSZ3.out.below hb5)
          clear ho5 hb5 HKN3 HOP3 HFB3
          refine hK.out _ _ ((blk_cell HFB4.out 1).trans rfl) (fun hHeld => ?_)
          clear hK K
          refine norm_ (a' := ?_) ?_ ?_
          rotate_left
          · show Act.put _ (some 56) _ = _
            simp only [Act.put, List.setIfInBounds_toArray, List.set_cons_zero, List.set_cons_succ, i64_w, i32_w]
            rfl
          refine pure_ (i := 12) (N := some 9) (v := ?_) (a' := ?_) #[true, true, true, true, true, true, true, true, true, true, true, true, true] rfl rfl (by kernel_rfl) (fun _ _ _ h => h) (Or.inl ⟨by rfl, ?_⟩) ?_ ?_
          rotate_left
          · intro w'
            go_simp
            with_reducible rfl
          rotate_left
          · simp only [Act.put, List.setIfInBounds_toArray, List.set_cons_zero, List.set_cons_succ, i64_w, i32_w]
            rfl
          refine done_ (by kernel_rfl) ?_
          clear hHeld
          --@E10
          have hlk : kb < w.heap.size ∧ ob < w.heap.size := HLT.out
          have HNx := Aside0.mk (Kd.R_mono (ok' := fun k => w.heap.size ≤ k) (Kd.R_lower HN.out (Below.size HB3.out)) (fun k hk => Nat.le_trans HSZ3.out.1 hk.1))
          go_wp2_with fail
          go_loopg [9, 58] M.length (fun gg s9 s58 wr => ∃ (xs : List Int) (i : Nat), s58 = .int .i64 i ∧ Aside0 (i ≤ M.length ∧ M.length - i ≤ gg ∧ xs.length ≤ i + 1) ∧ Aside0 (Kd.R (Kd.int .i64) 2 wr w0.heap.size (fun k => w.heap.size ≤ k) s9 xs) ∧ Aside0 (Far.KnAt wr kb kn) ∧ Aside0 (Far.OpAt wr ob (Far.upd op m true)) ∧ Aside0 (wr.heap[fb]? = some (.cells #[.slice A0 H.length c0, .slice A1 M.length c1, .map (some kb), .map (some ob)] 82 (0, 0))) ∧ Aside0 (Below w0.heap.size w0 wr) ∧ Aside0 (Kept w wr (fun k => k = kb ∨ k = ob)) ∧ Aside0 (xs ++ nxFrom H m (M.length - i) i = nx H M m))
          case atStart => exact ⟨[mvd m ((M.length : Int) - 1) M 0 0], 0, rfl, ⟨by simp⟩, HNx, HKN4, HOP4, HFB4, HB4, HSZ4, ⟨by rw [Nat.sub_zero]; rfl⟩⟩
          case round =>
            clear HN HNx HKN4 HOP4 HFB4 HB4 HSZ4 HPM HN1
            obtain ⟨xs, i, rfl, HI, HX, HKN, HOP, HFB, HB, HSZ, HE⟩ := hrel
            by_cases hlt : i < M.length
            · have hltz : (i : Int) < (M.length : Int) := by omega
              have hstep := HE.out
              rw [show M.length - i = (M.length - (i + 1)) + 1 by omega, nxFrom] at hstep
              have HWI := Aside0.mk (show wrap64 ((i : Int) + 1) = ((i + 1 : Nat) : Int) by have := h6.1; unfold wrap64; omega)
              have HLI := Aside0.mk hlt
              have hsh : m / 2 ^ min i 64 = shr .i64 m (i : Int) := by first | rfl | (unfold shr; simp; done) | (unfold shr; rw [Int.toNat_natCast])
              by_cases hbit : bitAt m (i : Int) = 1
              · have hbz : (Go.bits .and .i64 (m / 2 ^ min i 64) 1 == 1) = true := by rw [hsh]; exact beq_iff_eq.2 hbit
                rw [if_pos hbit] at hstep
                have hlt0 : i < H.length := by have := h6.2.1; omega
                have hltz0 : (i : Int) < (H.length : Int) := by omega
                obtain ⟨ad, cs, e1, _, hK, hq0⟩ := Kd.C_get hr0 ([] : List Int) (i : Int) (by omega) hltz0
                have hmem : H.getD i [] ∈ H := by rw [List.getD_eq_getElem?_getD, List.getElem?_eq_getElem hlt0]; exact List.getElem_mem _
                obtain ⟨hx1, hx2⟩ := h6.2.2.2 _ hmem
                rw [Int.toNat_natCast] at hK
                generalize H.getD i [] = y at hK hx1 hx2 hstep
                obtain ⟨A2, c2, rfl, hl2, hC2⟩ := hK
                have hcell0 : w0.cell? (ad.add i) = some (.slice A2 y.length c2) := by
                  have := hq0 0 _ rfl
                  rwa [Int.toNat_natCast, show i * (Kd.slice 2 (Kd.int .i64)).sz + 0 = i by show i * 1 + 0 = i; omega] at this
                have HPM := Aside0.mk (congrArg (Go.bits .andNot .i64 m) (shl_one i).symm)
                have HS := Aside0.mk hstep
                have HC0 := Aside0.mk hcell0
                have HY := Aside0.mk (And.intro hl2 (And.intro hx1 hx2))
                have HCY := Aside0.mk hC2
                have hHA := e1
                have hCell : ∀ {W : World}, Below w0.heap.size w0 W → W.cell? (ad.add i) = some (.slice A2 y.length c2) := fun hb_ => (hb_.cell (p := ad.add i) (World.block_lt_of_cell? w0 _ HC0.out)).trans HC0.out
                have HCE := Aside0.mk @hCell
                clear hq0 hmem hx1 hx2 hl2 hC2 hstep HE hbit hsh hlt hCell hcell0
                go_wp2_with fail
                --@R15
                refine start_ (n := 17) (S := fun w' => w'.cell? ⟨fb, 0, none⟩ = some (.slice A0 H.length c0) ∧ w'.cell? (ad.add i) = some (.slice A2 y.length c2)) (ds := []) #[false, false, false, false, false, false, false, false, false, false, false, false, false, false, false, false, false] (by kernel_rfl) rfl rfl ⟨(blk_cell HFB.out 0).trans rfl, HCE.out (below_drew1 HB.out)⟩ (fun hHeld => ?_)
                have HKN := Aside0.mk (HKN.out.kept (w' := wr.drew) (grown_of_below (below_drew1 (Below.refl _ _)) none) (by simp))
                have HOP := Aside0.mk (HOP.out.kept (w' := wr.drew) (grown_of_below (below_drew1 (Below.refl _ _)) none) (by simp))
                have HFB := Aside0.mk (blk_drew HFB.out)
                have HB := Aside0.mk (below_drew1 HB.out)
                have HSZ := Aside0.mk HSZ.out.drew
                have HX := Aside0.mk (Kd.R_drew HX.out)
                generalize wr.drew = w3 at HKN HOP HFB HB HSZ HX hHeld ⊢
                refine pure_ (i := 0) (N := some 66) (v := ?_) (a' := ?_) #[true, false, false, false, false, false, false, false, false, false, false, false, false, false, false, false, false] rfl rfl (by kernel_rfl) (fun _ _ _ h => h) (Or.inl ⟨by rfl, ?_⟩) ?_ ?_
                rotate_left
                · intro w'
                  go_simp
                  with_reducible rfl
                rotate_left
                · simp only [Act.put, List.setIfInBounds_toArray, List.set_cons_zero, List.set_cons_succ, i64_w, i32_w]
                  rfl
                refine pure_ (i := 1) (N := some 67) (v := ?_) (a' := ?_) #[true, true, false, false, false, false, false, false, false, false, false, false, false, false, false, false, false] rfl rfl (by kernel_rfl) (fun _ _ _ h => h) (Or.inl ⟨by rfl, ?_⟩) ?_ ?_
                rotate_left
                · intro w'
                  go_simp
                  with_reducible rfl
                rotate_left
                · simp only [Act.put, List.setIfInBounds_toArray, List.set_cons_zero, List.set_cons_succ, i64_w, i32_w]
                  rfl
                refine pure_ (i := 2) (N := some 68) (v := ?_) (a' := ?_) #[true, true, true, false, false, false, false, false, false, false, false, false, false, false, false, false, false] rfl rfl (by kernel_rfl) (fun _ _ _ h => h) (Or.inl ⟨by rfl, ?_⟩) ?_ ?_
                rotate_left
                · intro w'
                  go_simp
                  with_reducible rfl
                rotate_left
                · simp only [Act.put, List.setIfInBounds_toArray, List.set_cons_zero, List.set_cons_succ, i64_w, i32_w]
                  rfl
                refine pure_ (i := 3) (N := some 69) (v := ?_) (a' := ?_) #[true, true, true, true, false, false, false, false, false, false, false, false, false, false, false, false, false] rfl rfl (by kernel_rfl) (fun _ _ _ h => h) (Or.inl ⟨by rfl, ?_⟩) ?_ ?_
                rotate_left
                · intro w'
                  go_simp
                  with_reducible rfl
                rotate_left
                · simp only [Act.put, List.setIfInBounds_toArray, List.set_cons_zero, List.set_cons_succ, i64_w, i32_w]
                  rfl
                refine pure_ (i := 4) (N := some 70) (v := ?_) (a' := ?_) #[true, true, true, true, true, false, false, false, false, false, false, false, false, false, false, false, false] rfl rfl (by kernel_rfl) (fun _ _ _ h => h) (Or.inl ⟨by rfl, ?_⟩) ?_ ?_
                rotate_left
                · intro w'
                  go_simp
                  with_reducible rfl
                rotate_left
                · simp only [Act.put, List.setIfInBounds_toArray, List.set_cons_zero, List.set_cons_succ, i64_w, i32_w]
                  rfl
                refine pure_ (i := 5) (N := some 71) (v := ?_) (a' := ?_) #[true, true, true, true, true, true, false, false, false, false, false, false, false, false, false, false, false] rfl rfl (by kernel_rfl) (fun _ _ _ h => h) (Or.inl ⟨by rfl, ?_⟩) ?_ ?_
                rotate_left
                · intro w'
                  go_simp
                  with_reducible rfl
                rotate_left
                · simp only [Act.put, List.setIfInBounds_toArray, List.set_cons_zero, List.set_cons_succ, i64_w, i32_w]
                  rfl
                refine pure_ (i := 6) (N := some 72) (v := ?_) (a' := ?_) #[true, true, true, true, true, true, true, false, false, false, false, false, false, false, false, false, false] rfl rfl (by kernel_rfl) (fun _ _ _ h => h) (Or.inl ⟨by rfl, ?_⟩) ?_ ?_
                rotate_left
                · intro w'
                  go_simp
                  with_reducible rfl
                rotate_left
                · simp only [Act.put, List.setIfInBounds_toArray, List.set_cons_zero, List.set_cons_succ, i64_w, i32_w]
                  rfl
                refine pure_ (i := 7) (N := some 73) (v := ?_) (a' := ?_) #[true, true, true, true, true, true, true, true, false, false, false, false, false, false, false, false, false] rfl rfl (by kernel_rfl) (fun _ _ _ h => h) (Or.inl ⟨by rfl, ?_⟩) ?_ ?_
                rotate_left
                · intro w'
                  go_simp
                  with_reducible rfl
                rotate_left
                · simp only [Act.put, List.setIfInBounds_toArray, List.set_cons_zero, List.set_cons_succ, i64_w, i32_w]
                  rfl
                refine pure_ (i := 8) (N := some 74) (v := ?_) (a' := ?_) #[true, true, true, true, true, true, true, true, true, false, false, false, false, false, false, false, false] rfl rfl (by kernel_rfl) (fun _ _ _ h => h) (Or.inl ⟨by rfl, ?_⟩) ?_ ?_
                rotate_left
                · intro w'
                  go_simp
                  with_reducible rfl
                rotate_left
                · simp only [Act.put, List.setIfInBounds_toArray, List.set_cons_zero, List.set_cons_succ, i64_w, i32_w]
                  rfl
                refine take_ (i := 9) (N := some 75) (v := ?_) (a' := ?_) #[true, true, true, true, true, true, true, true, true, true, false, false, false, false, false, false, false] rfl rfl (by kernel_rfl) (fun _ _ _ h => h) (Or.inl ⟨by rfl, ?_⟩) hHeld ?_ ?_
                rotate_left
                · rintro w' ⟨s0, s1⟩
                  go_simp
                  with_reducible rfl
                rotate_left
                · simp only [Act.put, List.setIfInBounds_toArray, List.set_cons_zero, List.set_cons_succ, i64_w, i32_w]
                  rfl
                refine pure_ (i := 10) (N := some 76) (v := ?_) (a' := ?_) #[true, true, true, true, true, true, true, true, true, true, true, false, false, false, false, false, false] rfl rfl (by kernel_rfl) (fun _ _ _ h => h) (Or.inl ⟨by rfl, ?_⟩) ?_ ?_
                rotate_left
                · intro w'
                  go_simp
                  with_reducible rfl
                rotate_left
                · simp only [Act.put, List.setIfInBounds_toArray, List.set_cons_zero, List.set_cons_succ, i64_w, i32_w]
                  rfl
                refine pure_ (i := 11) (N := some 77) (v := ?_) (a' := ?_) #[true, true, true, true, true, true, true, true, true, true, true, true, false, false, false, false, false] rfl rfl (by kernel_rfl) (fun _ _ _ h => h) (Or.inl ⟨by rfl, ?_⟩) ?_ ?_
                rotate_left
                · intro w'
                  go_simp
                  with_reducible rfl
                rotate_left
                · simp only [Act.put, List.setIfInBounds_toArray, List.set_cons_zero, List.set_cons_succ, i64_w, i32_w]
                  rfl
                refine take_ (i := 12) (N := some 78) (v := ?_) (a' := ?_) #[true, true, true, true, true, true, true, true, true, true, true, true, true, false, false, false, false] rfl rfl (by kernel_rfl) (fun _ _ _ h => h) (Or.inl ⟨by rfl, ?_⟩) hHeld ?_ ?_
                rotate_left
                · rintro w' ⟨s0, s1⟩
                  go_simp
                  with_reducible rfl
                rotate_left
                · simp only [Act.put, List.setIfInBounds_toArray, List.set_cons_zero, List.set_cons_succ, i64_w, i32_w]
                  rfl
                refine one_ (i := 13) (N := some 79) #[true, true, true, true, true, true, true, true, true, true, true, true, true, true, false, false, false] rfl rfl (by kernel_rfl) (by decide) (fun K hK => ?_)
                refine goes_ Try.func107 (by kernel_rfl) rfl #[.int .i64 (Go.bits .andNot .i64 m (wrap64 (2 ^ min i 64))), .slice A2 y.length c2] (by rfl) rfl rfl (by (try simp only [List.map_toArray, List.map_cons, List.map_nil]); first | done | rfl) ?_
                refine (perm_at m (i : Int) (Go.bits .andNot .i64 m (wrap64 (2 ^ min i 64))) A2 c2 y HM.out.1 HM.out.2 HY.out.2.2 (by have := HY.out.2.1; have := h6.1; omega) (by omega) (by have := HLI.out; have := h6.1; omega) HPM.out w3 (Kd.C_below HCY.out HB.out) HY.out.1).mono ?_
                rintro e w4 ⟨rfl, hd⟩
                refine ⟨_, rfl, ?_⟩
                have b4 := Drawn0.below hd
                have HKN3 := Aside0.mk (HKN.out.kept (grown_of_below b4 none) (by simp))
                have HOP3 := Aside0.mk (HOP.out.kept (grown_of_below b4 none) (by simp))
                have HFB3 := Aside0.mk (blk_below HFB.out b4)
                have HB3 := Aside0.mk (below_step HB.out b4)
                have HSZ3 := Aside0.mk (HSZ.out.below b4)
                have HX3 := Aside0.mk (Kd.R_below HX.out b4)
                clear b4 hd HKN HOP HFB HB HSZ HX
                refine hK.out _ _ ⟨(blk_cell HFB3.out 0).trans rfl, HCE.out HB3.out⟩ (fun hHeld => ?_)
                clear hK K
                refine norm_ (a' := ?_) ?_ ?_
                rotate_left
                · show Act.put _ (some 79) _ = _
                  simp only [Act.put, List.setIfInBounds_toArray, List.set_cons_zero, List.set_cons_succ, i64_w, i32_w]
                  rfl
                refine one_ (i := 14) (N := some 80) #[true, true, true, true, true, true, true, true, true, true, true, true, true, true, true, false, false] rfl rfl (by kernel_rfl) (by decide) (fun K hK => ?_)
                refine value_ (w1 := ?_) (v := ?_) (by rfl) rfl ?_ ?_
                rotate_left 2
                · go_simp
                  constructor
                  · rfl
                  · rfl
                refine hK.out _ _ ⟨(blk_cell (blk_alloc HFB3.out _) 0).trans rfl, HCE.out (below_alloc HB3.out _)⟩ (fun hHeld => ?_)
                clear hK K
                refine norm_ (a' := ?_) ?_ ?_
                rotate_left
                · show Act.put _ (some 80) _ = _
                  simp only [Act.put, List.setIfInBounds_toArray, List.set_cons_zero, List.set_cons_succ, i64_w, i32_w]
                  rfl
                refine one_ (i := 15) (N := some 81) #[true, true, true, true, true, true, true, true, true, true, true, true, true, true, true, true, false] rfl rfl (by kernel_rfl) (by decide) (fun K hK => ?_)
                refine Kd.R_append_step (Kd.int .i64) (w0 := w0) w0.heap.size (by rfl) (.tmp 66) (.tmp 80) 24 2 (.int .i64 0) 8 rfl Try.underlying24 impl_forgetting_longest.info2 rfl (by decide) (by omega) u9 xs (mvd m (i : Int) y 0 0) [.int .i64 (mvd m (i : Int) y 0 0)] (fun k => w.heap.size ≤ k) (fun _ => False) rfl rfl ?aP (fun _ hk => hk.elim) ?aF ?aO ?aB ?aS ?aL ?_
                (case aP => exact rfl)
                (case aB => exact HB3.out)
                (case aF => exact (fun k hk => Nat.le_trans HSZ3.out.1 hk))
                (case aO => exact HX3.out)
                (case aS => exact (Below.size HB3.out))
                (case aL => have := HI.out; have := h6.1; omega)
                intro v10 w6 ho hb hg hat
                have HX6 := Aside0.mk ho
                have HB6 := Aside0.mk hb
                have HKN6 := Aside0.mk (HKN3.out.kept hg (fun e => by obtain ⟨_, ⟨_, _, hb_, _⟩, _⟩ := HKN3.out; obtain ⟨_, hc_⟩ := Kd.R_typed HX3.out kb e.symm; rw [hb_] at hc_; cases hc_))
                have HOP6 := Aside0.mk (HOP3.out.kept hg (fun e => by obtain ⟨_, ⟨_, _, hb_, _⟩, _⟩ := HOP3.out; obtain ⟨_, hc_⟩ := Kd.R_typed HX3.out ob e.symm; rw [hb_] at hc_; cases hc_))
                have HFB6 := Aside0.mk ((hg.block fb (blk_lt HFB3.out) (Kd.R_ne HX3.out HFB3.out (by decide))).trans HFB3.out)
                have HSZ6 := Aside0.mk (Kept.of_grown hg HSZ3.out (fun k e => .inr (HX3.out.1 k e)))
                clear ho hb hg hat HKN3 HOP3 HFB3 HB3 HSZ3 HX3
                refine hK.out _ _ ⟨(blk_cell HFB6.out 0).trans rfl, HCE.out HB6.out⟩ (fun hHeld => ?_)
                clear hK K
                refine norm_ (a' := ?_) ?_ ?_
                rotate_left
                · show Act.put _ (some 81) _ = _
                  simp only [Act.put, List.setIfInBounds_toArray, List.set_cons_zero, List.set_cons_succ, i64_w, i32_w]
                  rfl
                refine pure_ (i := 16) (N := some 9) (v := ?_) (a' := ?_) #[true, true, true, true, true, true, true, true, true, true, true, true, true, true, true, true, true] rfl rfl (by kernel_rfl) (fun _ _ _ h => h) (Or.inl ⟨by rfl, ?_⟩) ?_ ?_
                rotate_left
                · intro w'
                  go_simp
                  with_reducible rfl
                rotate_left
                · simp only [Act.put, List.setIfInBounds_toArray, List.set_cons_zero, List.set_cons_succ, i64_w, i32_w]
                  rfl
                refine done_ (by kernel_rfl) ?_
                clear hHeld
                --@E15
                go_wp2_with fail
                go_roundg (M.length - (i + 1))
                case measure => have := HI.out; have := HLI.out; omega
                case rel => exact ⟨xs ++ [mvd m (i : Int) y 0 0], i + 1, by first | rfl | (rw [HWI.out]), ⟨by have := HI.out; have := HLI.out; rw [List.length_append, List.length_singleton]; omega⟩, HX6, HKN6, HOP6, HFB6, HB6, HSZ6, ⟨by rw [List.append_assoc]; exact HS.out⟩⟩
              · have hbz : (Go.bits .and .i64 (m / 2 ^ min i 64) 1 == 1) = false := by rw [hsh]; exact beq_eq_false_iff_ne.2 hbit
                rw [if_neg hbit, List.nil_append] at hstep
                have HE2 := Aside0.mk hstep
                clear hstep HE hbit hsh hlt
                go_wp2_with fail
                go_roundg (M.length - (i + 1))
                case measure => have := HI.out; have := HLI.out; omega
                case rel => exact ⟨xs, i + 1, by first | rfl | (rw [HWI.out]), ⟨by have := HI.out; have := HLI.out; omega⟩, HX, HKN, HOP, HFB, HB, HSZ, HE2⟩
            · obtain rfl : i = M.length := by have := HI.out; omega
              have he := HE.out
              rw [Nat.sub_self, nxFrom, List.append_nil] at he
              subst he
              have hltz : ¬ (M.length : Int) < (M.length : Int) := by omega
              clear HE hlt
              obtain ⟨A9, c9, rfl⟩ := Kd.R_slice HX.out
              have hnx := nx_small h6 m
              have hsz := setsN_le M.length h6.1.2
              obtain ⟨ys, hys⟩ : ∃ ys, ys = nx H M m := ⟨_, rfl⟩
              have h2 := H2.out
              rw [← hys] at HX hnx h2 ⊢
              have HNX := Aside0.mk (show (∀ y ∈ ys, 0 ≤ y ∧ y < 64) ∧ ys.length ≤ 7 from ⟨fun y hy => by have := hnx.1 y hy; omega, hnx.2⟩)
              have HL2 := Aside0.mk h2
              clear hnx hsz hys h2 H2
              go_wp2_with fail
              go_loopg [11, 85] ys.length (fun gg s11 s85 wr => ∃ (most : Int) (j : Nat) (kn' : Int → Option Int) (op' : Int → Bool), s11 = .int .i64 most ∧ s85 = .int .i64 j ∧ Aside0 (j ≤ ys.length ∧ ys.length - j ≤ gg) ∧ Aside0 (-9223372036854775808 ≤ most ∧ most < 9223372036854775808) ∧ Aside0 (Kd.R (Kd.int .i64) 2 wr w0.heap.size (fun k => w.heap.size ≤ k) (.slice A9 ys.length c9) ys) ∧ Aside0 (Far.KnAt wr kb kn') ∧ Aside0 (Far.OpAt wr ob op') ∧ Aside0 (wr.heap[fb]? = some (.cells #[.slice A0 H.length c0, .slice A1 M.length c1, .map (some kb), .map (some ob)] 82 (0, 0))) ∧ Aside0 (Below w0.heap.size w0 wr) ∧ Aside0 (Kept w wr (fun k => k = kb ∨ k = ob)) ∧ Aside0 (lpF (dfsF (nx H M) d) (ys.drop j) most kn' op' = some r2))
              case atStart => exact ⟨0, 0, kn, Far.upd op m true, rfl, rfl, ⟨by omega⟩, ⟨by omega⟩, HX, HKN, HOP, HFB, HB, HSZ, ⟨by rw [List.drop_zero]; exact HL2.out⟩⟩
              case round =>
                clear HX HKN HOP HFB HB HSZ HL2
                obtain ⟨most, j, kn', op', rfl, rfl, HJ, HMO, HX, HKN, HOP, HFB, HB, HSZ, HE⟩ := hrel
                by_cases hlt : j < ys.length
                · have hltz : (j : Int) < (ys.length : Int) := by omega
                  obtain ⟨ady, ey, hcy⟩ := Kd.at_int (Kd.R_reads' HX.out).2.2 (j : Int) (by omega) hltz
                  subst ey
                  rw [show rd ys (j : Int) = ys.getD j 0 by unfold rd; rw [Int.toNat_natCast], Int.toNat_natCast] at hcy
                  have he := HE.out
                  rw [List.drop_eq_getElem_cons hlt, show ys[j] = ys.getD j 0 by rw [List.getD_eq_getElem?_getD, List.getElem?_eq_getElem hlt]; rfl, lpF] at he
                  obtain ⟨r1, h1, he2⟩ := Option.bind_eq_some_iff.mp he
                  have hy : 0 ≤ ys.getD j 0 ∧ ys.getD j 0 < 64 := HNX.out.1 _ (by rw [List.getD_eq_getElem?_getD, List.getElem?_eq_getElem hlt]; exact List.getElem_mem _)
                  generalize ys.getD j 0 = y at hcy h1 hy
                  have hc := IH.out y kn' op' r1 wr h1 hy.1 hy.2 HFB.out HKN.out HOP.out HB.out
                  have HE2 := Aside0.mk he2
                  have HW := Aside0.mk (show wrap64 ((j : Int) + 1) = ((j + 1 : Nat) : Int) by have := HNX.out.2; unfold wrap64; omega)
                  have HJL := Aside0.mk hlt
                  clear he he2 h1 hy HE hlt
                  go_wp2_with fail
                  refine hc.mono ?_
                  clear hc
                  rintro e w5 ⟨rfl, hkn5, hop5, hfb5, hb5, hk5⟩
                  have HX5 := Aside0.mk (Kd.R_kept HX.out hk5 (fun k hk e => by have := HLT.out; omega))
                  have HKN5 := Aside0.mk hkn5
                  have HOP5 := Aside0.mk hop5
                  have HFB5 := Aside0.mk hfb5
                  have HB5 := Aside0.mk hb5
                  have HSZ5 := Aside0.mk (HSZ.out.then_ hk5 (fun k h_ => .inl h_))
                  clear hkn5 hop5 hfb5 hb5 hk5 HX HKN HOP HFB HB HSZ hcy
                  obtain ⟨r1n, r1o, r1k, r1p⟩ := r1
                  have he2 := HE2.out
                  clear HE2
                  cases r1o with
                  | true =>
                    rw [if_pos rfl] at he2
                    have HE2 := Aside0.mk he2
                    clear he2
                    have hmo : -9223372036854775808 ≤ max most (wrap64 (r1n + 1)) ∧ max most (wrap64 (r1n + 1)) < 9223372036854775808 := by have := HMO.out; unfold wrap64; omega
                    have HMO2 := Aside0.mk hmo
                    clear hmo
                    by_cases hle : most < wrap64 (r1n + 1)
                    · have HMX := Aside0.mk (show max most (wrap64 (r1n + 1)) = wrap64 (r1n + 1) from Int.max_eq_right (Int.le_of_lt hle))
                      go_wp2_with fail
                      go_roundg (ys.length - (j + 1))
                      case measure => have := HJ.out; have := HJL.out; omega
                      case rel => exact ⟨max most (wrap64 (r1n + 1)), j + 1, r1k, r1p, by first | rfl | (rw [HMX.out]), by first | rfl | (rw [HW.out]), ⟨by have := HJ.out; have := HJL.out; omega⟩, HMO2, HX5, HKN5, HOP5, HFB5, HB5, HSZ5, HE2⟩
                    · have HMX := Aside0.mk (show max most (wrap64 (r1n + 1)) = most from Int.max_eq_left (Int.not_lt.1 hle))
                      go_wp2_with fail
                      go_roundg (ys.length - (j + 1))
                      case measure => have := HJ.out; have := HJL.out; omega
                      case rel => exact ⟨max most (wrap64 (r1n + 1)), j + 1, r1k, r1p, by first | rfl | (rw [HMX.out]), by first | rfl | (rw [HW.out]), ⟨by have := HJ.out; have := HJL.out; omega⟩, HMO2, HX5, HKN5, HOP5, HFB5, HB5, HSZ5, HE2⟩
                  | false =>
                    rw [if_neg (by simp)] at he2
                    obtain rfl := Option.some.inj he2
                    have h3 := H3.out
                    rw [if_neg (by simp)] at h3
                    obtain rfl := Option.some.inj h3
                    clear he2 h3 H3
                    go_wp2_with fail
                    go_ret2
                    exact ⟨rfl, HKN5.out, HOP5.out, HFB5.out, HB5.out, HSZ5.out⟩
                · obtain rfl : j = ys.length := by have := HJ.out; omega
                  have hltz : ¬ (ys.length : Int) < (ys.length : Int) := by omega
                  have he := HE.out
                  rw [List.drop_length, lpF] at he
                  obtain rfl := Option.some.inj he
                  have h3 := H3.out
                  rw [if_pos rfl] at h3
                  obtain rfl := Option.some.inj h3
                  clear he h3 H3 HE hlt
                  have c3 := (blk_cell HFB.out 3).trans rfl
                  go_wp2_with (first | (at_mapUpdate; refine Far.put_op _ rfl _ _ _ _ rfl Try.underlying80 ob op' rfl HOP.out m false rfl rfl HM.out.1 HM.out.2 ?_; intro w6 ho6 hg6; have HOP6 := Aside0.mk ho6; have HKN6 := Aside0.mk (HKN.out.kept hg6 (fun e => hko (by injection e))); have HFB6 := Aside0.mk ((hg6.block fb (blk_lt HFB.out) (fun e => by injection e with e; subst e; obtain ⟨_, ⟨_, _, hb_, _⟩, _⟩ := HOP.out; rw [HFB.out] at hb_; cases hb_)).trans HFB.out); have HB6 := Aside0.mk (HB.out.grown hg6 (Below.size HB.out) (fun k_ e_ => by cases e_; exact hob)); have HSZ6 := Aside0.mk (Kept.of_grown hg6 HSZ.out (fun k_ e_ => .inl (.inr (by injection e_ with e_; exact e_.symm)))); clear ho6 hg6 HOP HKN HFB HB HSZ c3; have c2 := (blk_cell HFB6.out 2).trans rfl) | (at_mapUpdate; refine Far.put_kn _ rfl _ _ _ _ rfl Try.underlying79 kb kn' rfl HKN6.out m most rfl rfl HM.out.1 HM.out.2 (WalkArith.wf_i64 (by have := HMO.out; omega)) ?_; intro w7 ho7 hg7; have HKN7 := Aside0.mk ho7; have HOP7 := Aside0.mk (HOP6.out.kept hg7 (fun e => hko (by injection e with e; exact e.symm))); have HFB7 := Aside0.mk ((hg7.block fb (blk_lt HFB6.out) (fun e => by injection e with e; subst e; obtain ⟨_, ⟨_, _, hb_, _⟩, _⟩ := HKN6.out; rw [HFB6.out] at hb_; cases hb_)).trans HFB6.out); have HB7 := Aside0.mk (HB6.out.grown hg7 (Below.size HB6.out) (fun k_ e_ => by cases e_; exact hkb)); have HSZ7 := Aside0.mk (Kept.of_grown hg7 HSZ6.out (fun k_ e_ => .inl (.inl (by injection e_ with e_; exact e_.symm)))); clear ho7 hg7 HOP6 HKN6 HFB6 HB6 HSZ6 c2))
                  go_ret2
                  exact ⟨rfl, HKN7.out, HOP7.out, HFB7.out, HB7.out, HSZ7.out⟩


/-! ### impl_ForgetAfter: function 49: by hand -/
/-- What the program computes for a valid policy. -/
def implFA (H : List (List Int)) (M : List Int) : Option Got := dfsF (nx H M) 100 (setsN M.length - 1) (fun _ => none) (fun _ => false)
def impl_ForgetAfter.f (l0_0 : List (List Int)) (l0_1 : List Int) : Option (Int × Bool) := if l0_1.length ≤ 1048576 ∧ (∀ x ∈ l0_0, x.length ≤ 1048576) then (if validP l0_0 l0_1 = true then (if Six l0_0 l0_1 then (implFA l0_0 l0_1).bind fun r => some (r.n, r.ok) else none) else some (0, false)) else none
set_option maxHeartbeats 8000000 in
set_option maxRecDepth 100000 in
theorem impl_ForgetAfter.calls (A0_0 : Option Addr) (c0_0 : Nat) (l0_0 : List (List Int)) (A0_1 : Option Addr) (c0_1 : Nat) (l0_1 : List Int) (r1 : Int) (r2 : Bool) (w : World) (hr0_0 : Kd.C (Kd.slice 2 (Kd.int .i64)) w A0_0 l0_0.length l0_0) (hc0_0 : l0_0.length ≤ c0_0) (hr0_1 : Kd.C (Kd.int .i64) w A0_1 l0_1.length l0_1) (hc0_1 : l0_1.length ≤ c0_1) (h : impl_ForgetAfter.f l0_0 l0_1 = some (r1, r2)) :
    Calls Try.prog 49 #[.agg #[.slice A0_0 l0_0.length c0_0, .slice A0_1 l0_1.length c0_1]] w fun e w' => e = .returned (.tuple #[.int .i64 r1, .bool r2]) ∧ Below w.heap.size w w' := by
  unfold impl_ForgetAfter.f at h
  by_cases hl : l0_1.length ≤ 1048576 ∧ (∀ x ∈ l0_0, x.length ≤ 1048576)
  case neg => rw [if_neg hl] at h; cases h
  rw [if_pos hl] at h
  have hu := Try.underlying42
  have hu82 := Try.underlying82
  have hp : impl_ValidPolicy.f l0_0 l0_1 = some (validP l0_0 l0_1) := by unfold impl_ValidPolicy.f; rw [if_pos hl]
  have k0 := blk_new w (.cells #[.slice A0_0 l0_0.length c0_0, .slice A0_1 l0_1.length c0_1] 42)
  have b0 := below_alloc (Below.refl w.heap.size w) (.cells #[.slice A0_0 l0_0.length c0_0, .slice A0_1 l0_1.length c0_1] 42)
  have c00 := (blk_cell k0 0).trans rfl
  have c01 := (blk_cell k0 1).trans rfl
  have HR0 := Aside0.mk hr0_0
  have HR1 := Aside0.mk hr0_1
  have HC0 := Aside0.mk hc0_0
  have HC1 := Aside0.mk hc0_1
  clear hr0_0 hr0_1 hc0_0 hc0_1 hl
  cases hv : validP l0_0 l0_1 with
  | false =>
    rw [hv, if_neg (by decide)] at h
    rw [hv] at hp
    obtain ⟨rfl, rfl⟩ := Prod.mk.inj (Option.some.inj h)
    have HP := Aside0.mk hp
    clear h hp hv
    go_enter Try.func49, Try.ntmps49
    go_wp2_with fail
    generalize w.alloc (.cells #[.slice A0_0 l0_0.length c0_0, .slice A0_1 l0_1.length c0_1] 42) = W0 at k0 b0 c00 c01 ⊢
    refine (impl_ValidPolicy.calls _ _ l0_0 _ _ l0_1 false _ (Kd.C_below HR0.out b0) HC0.out (Kd.C_below HR1.out b0) HC1.out HP.out).mono ?_
    rintro e w1 ⟨rfl, b1⟩
    have B1 := Aside0.mk (below_step b0 b1)
    clear k0 b0 c00 c01 b1
    go_wp2_with fail
    go_ret2
    exact ⟨rfl, B1.out⟩
  | true =>
    rw [hv, if_pos rfl] at h
    rw [hv] at hp
    by_cases h6 : Six l0_0 l0_1
    case neg => rw [if_neg h6] at h; cases h
    rw [if_pos h6] at h
    obtain ⟨r, hr, h⟩ := Option.bind_eq_some_iff.mp h
    obtain ⟨rfl, rfl⟩ := Prod.mk.inj (Option.some.inj h)
    have HP := Aside0.mk hp
    have HD := Aside0.mk hr
    have H6 := Aside0.mk h6
    have hfull : wrap64 (wrap64 (2 ^ min l0_1.length 64) - 1) = setsN l0_1.length - 1 := by
      rw [Nat.min_eq_left (by have := h6.1; omega)]
      have h2 := setsN_le l0_1.length h6.1.2
      show wrap64 (wrap64 (setsN l0_1.length) - 1) = setsN l0_1.length - 1
      generalize setsN l0_1.length = s at h2 ⊢
      unfold wrap64
      omega
    have HFU := Aside0.mk hfull
    clear h hp hv hr h6 hfull
    have hmm := @run_makeMap Try.prog
    go_enter Try.func49, Try.ntmps49
    go_wp2_with fail
    generalize w.alloc (.cells #[.slice A0_0 l0_0.length c0_0, .slice A0_1 l0_1.length c0_1] 42) = W0 at k0 b0 c00 c01 ⊢
    refine (impl_ValidPolicy.calls _ _ l0_0 _ _ l0_1 true _ (Kd.C_below HR0.out b0) HC0.out (Kd.C_below HR1.out b0) HC1.out HP.out).mono ?_
    rintro e w1 ⟨rfl, b1⟩
    have B1 := Aside0.mk (below_step b0 b1)
    have K1 := Aside0.mk (blk_below k0 b1)
    clear k0 b0 c00 c01 b1
    have c00 := (blk_cell K1.out 0).trans rfl
    have c01 := (blk_cell K1.out 1).trans rfl
    have k3 := blk_alloc (blk_alloc (blk_alloc K1.out (.map #[] 0)) (.map #[] 0)) (.cells #[.slice A0_0 l0_0.length c0_0, .slice A0_1 l0_1.length c0_1, .map (some w1.heap.size), .map (some (w1.heap.size + 1))] 82)
    have c20 := (blk_cell k3 0).trans rfl
    have c21 := (blk_cell k3 1).trans rfl
    have e1 : (w1.alloc (.map #[] 0)).heap.size = w1.heap.size + 1 := by show (w1.heap.push _).size = _; rw [Array.size_push]
    have e2 : ((w1.alloc (.map #[] 0)).alloc (.map #[] 0)).heap.size = w1.heap.size + 2 := by show ((w1.heap.push _).push _).size = _; rw [Array.size_push, Array.size_push]
    have hkn : Far.KnAt (((w1.alloc (.map #[] 0)).alloc (.map #[] 0)).alloc (.cells #[.slice A0_0 l0_0.length c0_0, .slice A0_1 l0_1.length c0_1, .map (some w1.heap.size), .map (some (w1.heap.size + 1))] 82)) w1.heap.size (fun _ => none) := ((Far.KnAt.made w1).kept (World.grownBy_alloc _ _ none) (by simp)).kept (World.grownBy_alloc _ _ none) (by simp)
    have hop := Far.OpAt.made (w1.alloc (.map #[] 0))
    rw [e1] at hop
    have hop2 := hop.kept (World.grownBy_alloc _ (.cells #[.slice A0_0 l0_0.length c0_0, .slice A0_1 l0_1.length c0_1, .map (some w1.heap.size), .map (some (w1.heap.size + 1))] 82) none) (by simp)
    have hfb := blk_new ((w1.alloc (.map #[] 0)).alloc (.map #[] 0)) (.cells #[.slice A0_0 l0_0.length c0_0, .slice A0_1 l0_1.length c0_1, .map (some w1.heap.size), .map (some (w1.heap.size + 1))] 82)
    rw [e2] at hfb
    have hb3 := below_alloc (below_alloc (below_alloc B1.out (.map #[] 0)) (.map #[] 0)) (.cells #[.slice A0_0 l0_0.length c0_0, .slice A0_1 l0_1.length c0_1, .map (some w1.heap.size), .map (some (w1.heap.size + 1))] 82)
    have HKN := Aside0.mk hkn
    have HOP := Aside0.mk hop2
    have HFB := Aside0.mk hfb
    have HB3 := Aside0.mk hb3
    have HSZ := Aside0.mk (Below.size B1.out)
    clear hkn hop hop2 hfb hb3 e1 e2 k3
    go_wp2_with fail
    clear c00 c01 c20 c21 hmm
    refine (impl_Policy_ways.calls A0_0 c0_0 l0_0 A0_1 c0_1 l0_1 (l0_1.length : Int) _ (Kd.C_below HR0.out HB3.out) HC0.out (Kd.C_below HR1.out HB3.out) HC1.out rfl).mono ?_
    rintro e w2 ⟨rfl, b2⟩
    have HKN2 := Aside0.mk (HKN.out.kept (grown_of_below b2 none) (by simp))
    have HOP2 := Aside0.mk (HOP.out.kept (grown_of_below b2 none) (by simp))
    have HFB2 := Aside0.mk (blk_below HFB.out b2)
    have HB2 := Aside0.mk (below_step HB3.out b2)
    clear b2 HKN HOP HFB HB3 K1 B1
    have hsz := setsN_le l0_1.length H6.out.1.2
    have hc := impl_forgetting_longest.at_ w A0_0 c0_0 l0_0 A0_1 c0_1 l0_1 HR0.out HC0.out HR1.out HC1.out H6.out (w1.heap.size + 2) w1.heap.size (w1.heap.size + 1) HSZ.out (by have := HSZ.out; omega) (by omega) 100 _ _ _ r w2 HD.out (by omega) (by omega) HFB2.out HKN2.out HOP2.out HB2.out
    rw [← HFU.out] at hc
    clear hsz HKN2 HOP2 HFB2 HB2
    go_wp2_with fail
    refine hc.mono ?_
    clear hc
    rintro e w3 ⟨rfl, -, -, -, b3, -⟩
    have B3 := Aside0.mk b3
    clear b3
    go_wp2_with fail
    go_ret2
    exact ⟨rfl, B3.out⟩


end Go.Proofs.Yteoacngaicchiaa.PFnExactForgetAfter
