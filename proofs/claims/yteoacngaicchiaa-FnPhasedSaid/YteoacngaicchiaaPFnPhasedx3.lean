-- WRITTEN BY wip/xprint.py out of the translation, with contracts of mine put in: Lean checks it.
import Derived.Test.YteoacngaicchiaaPFnPhasedx0
import Derived.Test.YteoacngaicchiaaPFnPhasedx1
import Derived.Test.YteoacngaicchiaaPFnPhasedx2
namespace Go.Proofs.Yteoacngaicchiaa.PFnPhased
open Go.RowKit Go.Proofs.YteoacngaicchiaaW.PrintWords Go.Proofs.YteoacngaicchiaaW.PrintLast Go.Proofs.YteoacngaicchiaaW.PrintMore
attribute [local go_sem] max2_int min2_int max_two min_two max_three min_three max_four min_four   -- for this text's walks alone
set_option linter.unusedVariables false
set_option linter.unusedSimpArgs false

/-! ### laws_FnPhased: function 3 -/
mutual
def laws_FnPhased.j0 : Nat → List Int → Int → List Int → Bool → Option (Bool)
  | 0, _, _, _, _ => none
  | k + 1, x5, x6, x7, x50 => if x50 = true then (some false) else (laws_FnPhased.l0 k x5 x6 x7 0)
def laws_FnPhased.l0 : Nat → List Int → Int → List Int → Int → Option (Bool)
  | 0, _, _, _, _ => none
  | k + 1, x5, x6, x7, x9 => if x9 < (x7.length : Int) then (if (wrap64 (x9 + 1)) < (x7.length : Int) then (if 0 ≤ (wrap64 (x9 + 1)) then (laws_FnPhased.j2 k x5 x6 x7 x9 (rd x7 (wrap64 (x9 + 1)))) else (none)) else (laws_FnPhased.j2 k x5 x6 x7 x9 (x5.length : Int))) else (some true)
def laws_FnPhased.j2 : Nat → List Int → Int → List Int → Int → Int → Option (Bool)
  | 0, _, _, _, _, _ => none
  | k + 1, x5, x6, x7, x9, x10 => if 0 ≤ x9 then (if x9 < (x7.length : Int) then (if (rd x7 x9) < 0 then (laws_FnPhased.j3 k x5 x6 x7 x9 x10 true) else (if x10 ≤ (rd x7 x9) then (laws_FnPhased.j3 k x5 x6 x7 x9 x10 true) else (laws_FnPhased.j3 k x5 x6 x7 x9 x10 (decide (x10 > (x5.length : Int)))))) else (none)) else (none)
def laws_FnPhased.j3 : Nat → List Int → Int → List Int → Int → Int → Bool → Option (Bool)
  | 0, _, _, _, _, _, _ => none
  | k + 1, x5, x6, x7, x9, x10, x87 => if x87 = true then (some false) else (if 0 ≤ x9 then (if x9 < (x7.length : Int) then (if 0 ≤ (rd x7 x9) then (if (rd x7 x9) ≤ x10 then (if x10 ≤ (x5.length : Int) then ((impl_AddressesOf.f ((x5.take (x10 : Int).toNat).drop ((rd x7 x9) : Int).toNat)).bind fun bt187 => (if bt187.2 = true then (laws_FnPhased.j4 k x5 x6 x7 x9 x10 (decide ((bt187.1.length : Int) > x6))) else (laws_FnPhased.j4 k x5 x6 x7 x9 x10 true))) else (none)) else (none)) else (none)) else (none)) else (none))
def laws_FnPhased.j4 : Nat → List Int → Int → List Int → Int → Int → Bool → Option (Bool)
  | 0, _, _, _, _, _, _ => none
  | k + 1, x5, x6, x7, x9, x10, x106 => if x106 = true then (some false) else (if x10 = (x5.length : Int) then (laws_FnPhased.l0 k x5 x6 x7 (wrap64 (x9 + 1))) else (if 0 ≤ x9 then (if x9 < (x7.length : Int) then (if 0 ≤ (rd x7 x9) then (if (rd x7 x9) ≤ (wrap64 (x10 + 1)) then (if (wrap64 (x10 + 1)) ≤ (x5.length : Int) then ((impl_AddressesOf.f ((x5.take ((wrap64 (x10 + 1)) : Int).toNat).drop ((rd x7 x9) : Int).toNat)).bind fun bt196 => (if bt196.2 = true then (if (bt196.1.length : Int) = (wrap64 (x6 + 1)) then (laws_FnPhased.l0 k x5 x6 x7 (wrap64 (x9 + 1))) else (some false)) else (some false))) else (none)) else (none)) else (none)) else (none)) else (none)))
end
def laws_FnPhased.f (k : Nat) (l0 : List Int) (l1 : List Int) : Option (Bool) := (laws_r8Long.f l0 l1).bind fun t169 => (if t169 = true then (some true) else ((spec_R8Uses.f k l0).bind fun t170 => ((laws_r8At.f l1 0 6).bind fun t173 => ((impl_PhasesOf.f k t170 (wrap64 (1 + t173))).bind fun bt174 => (if bt174.2 = true then (if (((bt174.1.length : Int) == 0) != ((t170.length : Int) == 0)) = true then (laws_FnPhased.j0 k t170 (wrap64 (1 + t173)) bt174.1 true) else (if (bt174.1.length : Int) > 0 then (if 0 < (bt174.1.length : Int) then (laws_FnPhased.j0 k t170 (wrap64 (1 + t173)) bt174.1 ((rd bt174.1 0) != 0)) else (none)) else (laws_FnPhased.j0 k t170 (wrap64 (1 + t173)) bt174.1 false))) else (laws_FnPhased.j0 k t170 (wrap64 (1 + t173)) bt174.1 true))))))
theorem laws_FnPhased.mono_l : ∀ k, (∀ y0 y1 y2 y3, LeO (laws_FnPhased.j0 k y0 y1 y2 y3) (laws_FnPhased.j0 (k + 1) y0 y1 y2 y3)) ∧ (∀ y0 y1 y2 y3, LeO (laws_FnPhased.l0 k y0 y1 y2 y3) (laws_FnPhased.l0 (k + 1) y0 y1 y2 y3)) ∧ (∀ y0 y1 y2 y3 y4, LeO (laws_FnPhased.j2 k y0 y1 y2 y3 y4) (laws_FnPhased.j2 (k + 1) y0 y1 y2 y3 y4)) ∧ (∀ y0 y1 y2 y3 y4 y5, LeO (laws_FnPhased.j3 k y0 y1 y2 y3 y4 y5) (laws_FnPhased.j3 (k + 1) y0 y1 y2 y3 y4 y5)) ∧ (∀ y0 y1 y2 y3 y4 y5, LeO (laws_FnPhased.j4 k y0 y1 y2 y3 y4 y5) (laws_FnPhased.j4 (k + 1) y0 y1 y2 y3 y4 y5))
  | 0 => ⟨fun _ _ _ _ r h => by simp [laws_FnPhased.j0] at h, fun _ _ _ _ r h => by simp [laws_FnPhased.l0] at h, fun _ _ _ _ _ r h => by simp [laws_FnPhased.j2] at h, fun _ _ _ _ _ _ r h => by simp [laws_FnPhased.j3] at h, fun _ _ _ _ _ _ r h => by simp [laws_FnPhased.j4] at h⟩
  | k + 1 => by
    obtain ⟨ih0, ih1, ih2, ih3, ih4⟩ := laws_FnPhased.mono_l k
    refine ⟨?_, ?_, ?_, ?_, ?_⟩
    · intro y0 y1 y2 y3
      unfold laws_FnPhased.j0
      repeat' first
      | (with_reducible exact ih0 _ _ _ _)
      | (with_reducible exact ih1 _ _ _ _)
      | (with_reducible exact ih2 _ _ _ _ _)
      | (with_reducible exact ih3 _ _ _ _ _ _)
      | (with_reducible exact ih4 _ _ _ _ _ _)
      | (with_reducible exact impl_PhasesOf.mono _ _ _)
      | (with_reducible exact spec_R8Uses.mono _ _)
      | (with_reducible exact LeO.refl _)
      | (with_reducible exact LeO.none _)
      | (with_reducible refine LeO.ite ?_ ?_)
      | (with_reducible refine LeO.bind ?_ (fun _ => ?_))
      | exact ih0 _ _ _ _
      | exact ih1 _ _ _ _
      | exact ih2 _ _ _ _ _
      | exact ih3 _ _ _ _ _ _
      | exact ih4 _ _ _ _ _ _
      | exact impl_PhasesOf.mono _ _ _
      | exact spec_R8Uses.mono _ _
      | exact LeO.none _
      | refine LeO.ite ?_ ?_
      | refine LeO.bind ?_ (fun _ => ?_)
    · intro y0 y1 y2 y3
      unfold laws_FnPhased.l0
      repeat' first
      | (with_reducible exact ih0 _ _ _ _)
      | (with_reducible exact ih1 _ _ _ _)
      | (with_reducible exact ih2 _ _ _ _ _)
      | (with_reducible exact ih3 _ _ _ _ _ _)
      | (with_reducible exact ih4 _ _ _ _ _ _)
      | (with_reducible exact impl_PhasesOf.mono _ _ _)
      | (with_reducible exact spec_R8Uses.mono _ _)
      | (with_reducible exact LeO.refl _)
      | (with_reducible exact LeO.none _)
      | (with_reducible refine LeO.ite ?_ ?_)
      | (with_reducible refine LeO.bind ?_ (fun _ => ?_))
      | exact ih0 _ _ _ _
      | exact ih1 _ _ _ _
      | exact ih2 _ _ _ _ _
      | exact ih3 _ _ _ _ _ _
      | exact ih4 _ _ _ _ _ _
      | exact impl_PhasesOf.mono _ _ _
      | exact spec_R8Uses.mono _ _
      | exact LeO.none _
      | refine LeO.ite ?_ ?_
      | refine LeO.bind ?_ (fun _ => ?_)
    · intro y0 y1 y2 y3 y4
      unfold laws_FnPhased.j2
      repeat' first
      | (with_reducible exact ih0 _ _ _ _)
      | (with_reducible exact ih1 _ _ _ _)
      | (with_reducible exact ih2 _ _ _ _ _)
      | (with_reducible exact ih3 _ _ _ _ _ _)
      | (with_reducible exact ih4 _ _ _ _ _ _)
      | (with_reducible exact impl_PhasesOf.mono _ _ _)
      | (with_reducible exact spec_R8Uses.mono _ _)
      | (with_reducible exact LeO.refl _)
      | (with_reducible exact LeO.none _)
      | (with_reducible refine LeO.ite ?_ ?_)
      | (with_reducible refine LeO.bind ?_ (fun _ => ?_))
      | exact ih0 _ _ _ _
      | exact ih1 _ _ _ _
      | exact ih2 _ _ _ _ _
      | exact ih3 _ _ _ _ _ _
      | exact ih4 _ _ _ _ _ _
      | exact impl_PhasesOf.mono _ _ _
      | exact spec_R8Uses.mono _ _
      | exact LeO.none _
      | refine LeO.ite ?_ ?_
      | refine LeO.bind ?_ (fun _ => ?_)
    · intro y0 y1 y2 y3 y4 y5
      unfold laws_FnPhased.j3
      repeat' first
      | (with_reducible exact ih0 _ _ _ _)
      | (with_reducible exact ih1 _ _ _ _)
      | (with_reducible exact ih2 _ _ _ _ _)
      | (with_reducible exact ih3 _ _ _ _ _ _)
      | (with_reducible exact ih4 _ _ _ _ _ _)
      | (with_reducible exact impl_PhasesOf.mono _ _ _)
      | (with_reducible exact spec_R8Uses.mono _ _)
      | (with_reducible exact LeO.refl _)
      | (with_reducible exact LeO.none _)
      | (with_reducible refine LeO.ite ?_ ?_)
      | (with_reducible refine LeO.bind ?_ (fun _ => ?_))
      | exact ih0 _ _ _ _
      | exact ih1 _ _ _ _
      | exact ih2 _ _ _ _ _
      | exact ih3 _ _ _ _ _ _
      | exact ih4 _ _ _ _ _ _
      | exact impl_PhasesOf.mono _ _ _
      | exact spec_R8Uses.mono _ _
      | exact LeO.none _
      | refine LeO.ite ?_ ?_
      | refine LeO.bind ?_ (fun _ => ?_)
    · intro y0 y1 y2 y3 y4 y5
      unfold laws_FnPhased.j4
      repeat' first
      | (with_reducible exact ih0 _ _ _ _)
      | (with_reducible exact ih1 _ _ _ _)
      | (with_reducible exact ih2 _ _ _ _ _)
      | (with_reducible exact ih3 _ _ _ _ _ _)
      | (with_reducible exact ih4 _ _ _ _ _ _)
      | (with_reducible exact impl_PhasesOf.mono _ _ _)
      | (with_reducible exact spec_R8Uses.mono _ _)
      | (with_reducible exact LeO.refl _)
      | (with_reducible exact LeO.none _)
      | (with_reducible refine LeO.ite ?_ ?_)
      | (with_reducible refine LeO.bind ?_ (fun _ => ?_))
      | exact ih0 _ _ _ _
      | exact ih1 _ _ _ _
      | exact ih2 _ _ _ _ _
      | exact ih3 _ _ _ _ _ _
      | exact ih4 _ _ _ _ _ _
      | exact impl_PhasesOf.mono _ _ _
      | exact spec_R8Uses.mono _ _
      | exact LeO.none _
      | refine LeO.ite ?_ ?_
      | refine LeO.bind ?_ (fun _ => ?_)
theorem laws_FnPhased.mono : ∀ a0 a1 k, LeO (laws_FnPhased.f k a0 a1) (laws_FnPhased.f (k + 1) a0 a1) := by
  intro a0 a1 k
  obtain ⟨ih0, ih1, ih2, ih3, ih4⟩ := laws_FnPhased.mono_l k
  unfold laws_FnPhased.f
  repeat' first
      | (with_reducible exact ih0 _ _ _ _)
      | (with_reducible exact ih1 _ _ _ _)
      | (with_reducible exact ih2 _ _ _ _ _)
      | (with_reducible exact ih3 _ _ _ _ _ _)
      | (with_reducible exact ih4 _ _ _ _ _ _)
      | (with_reducible exact impl_PhasesOf.mono _ _ _)
      | (with_reducible exact spec_R8Uses.mono _ _)
      | (with_reducible exact LeO.refl _)
      | (with_reducible exact LeO.none _)
      | (with_reducible refine LeO.ite ?_ ?_)
      | (with_reducible refine LeO.bind ?_ (fun _ => ?_))
      | exact ih0 _ _ _ _
      | exact ih1 _ _ _ _
      | exact ih2 _ _ _ _ _
      | exact ih3 _ _ _ _ _ _
      | exact ih4 _ _ _ _ _ _
      | exact impl_PhasesOf.mono _ _ _
      | exact spec_R8Uses.mono _ _
      | exact LeO.none _
      | refine LeO.ite ?_ ?_
      | refine LeO.bind ?_ (fun _ => ?_)
set_option maxHeartbeats 8000000 in
set_option maxRecDepth 100000 in
theorem laws_FnPhased.calls (k : Nat) (A0 : Option Addr) (c0 : Nat) (l0 : List Int) (A1 : Option Addr) (c1 : Nat) (l1 : List Int) (r : Bool) (w : World) (hr0 : Kd.C (Kd.int .u8) w A0 l0.length l0) (hc0 : l0.length ≤ c0) (hr1 : Kd.C (Kd.int .u8) w A1 l1.length l1) (hc1 : l1.length ≤ c1) (h : laws_FnPhased.f k l0 l1 = some r) :
    Calls Try.prog 3 #[.slice A0 l0.length c0, .slice A1 l1.length c1] w fun e w' => e = .returned (.bool r) ∧ Below w.heap.size w w' := by
  have HR0 := Aside0.mk hr0
  have HC0 := Aside0.mk hc0
  clear hr0 hc0
  have HR1 := Aside0.mk hr1
  have HC1 := Aside0.mk hc1
  clear hr1 hc1
  have HB := Aside0.mk (Below.refl w.heap.size w)
  have H : ((laws_r8Long.f l0 l1).bind fun t169 => (if t169 = true then (some true) else ((spec_R8Uses.f k l0).bind fun t170 => ((laws_r8At.f l1 0 6).bind fun t173 => ((impl_PhasesOf.f k t170 (wrap64 (1 + t173))).bind fun bt174 => (if bt174.2 = true then (if (((bt174.1.length : Int) == 0) != ((t170.length : Int) == 0)) = true then (laws_FnPhased.j0 k t170 (wrap64 (1 + t173)) bt174.1 true) else (if (bt174.1.length : Int) > 0 then (if 0 < (bt174.1.length : Int) then (laws_FnPhased.j0 k t170 (wrap64 (1 + t173)) bt174.1 ((rd bt174.1 0) != 0)) else (none)) else (laws_FnPhased.j0 k t170 (wrap64 (1 + t173)) bt174.1 false))) else (laws_FnPhased.j0 k t170 (wrap64 (1 + t173)) bt174.1 true))))))) = some r := h
  clear h
  replace H := Option.bind_eq_some_iff.mp H
  obtain ⟨t169, A30, H⟩ := H
  replace H : (if t169 = true then (some true) else ((spec_R8Uses.f k l0).bind fun t170 => ((laws_r8At.f l1 0 6).bind fun t173 => ((impl_PhasesOf.f k t170 (wrap64 (1 + t173))).bind fun bt174 => (if bt174.2 = true then (if (((bt174.1.length : Int) == 0) != ((t170.length : Int) == 0)) = true then (laws_FnPhased.j0 k t170 (wrap64 (1 + t173)) bt174.1 true) else (if (bt174.1.length : Int) > 0 then (if 0 < (bt174.1.length : Int) then (laws_FnPhased.j0 k t170 (wrap64 (1 + t173)) bt174.1 ((rd bt174.1 0) != 0)) else (none)) else (laws_FnPhased.j0 k t170 (wrap64 (1 + t173)) bt174.1 false))) else (laws_FnPhased.j0 k t170 (wrap64 (1 + t173)) bt174.1 true)))))) = some r := H
  have A3 := Aside0.mk A30
  clear A30
  by_cases c4 : t169 = true
  · subst c4
    have H1 : (some true) = some r := by rw [if_pos rfl] at H; exact H
    clear H
    have H := H1
    clear H1
    obtain rfl := Option.some.inj H
    go_enter Try.func3, Try.ntmps3
    go_wp2_with (first | ((with_reducible refine gate_callee (f := 15) rfl ?_); refine goesL_ (some 17) rfl rfl Try.func15 (by kernel_rfl) rfl #[.slice A0 l0.length c0, .slice A1 l1.length c1] rfl (by (try simp only [List.map_toArray, List.map_cons, List.map_nil]); first | done | rfl | (simp only [List.length_drop, List.length_take]; rfl)) ?_; (with_reducible refine (laws_r8Long.calls _ _ l0 _ _ l1 true _ ?side1 ?side2 ?side3 ?side4 A3.out).mono ?_); (case side1 => repeat (first | exact HR0.out | (with_reducible refine Kd.C_alloc ?_ _) | (with_reducible refine Kd.C_drewN ?_ _) | (with_reducible refine Kd.C_drew ?_))); (case side2 => exact HC0.out); (case side3 => repeat (first | exact HR1.out | (with_reducible refine Kd.C_alloc ?_ _) | (with_reducible refine Kd.C_drewN ?_ _) | (with_reducible refine Kd.C_drew ?_))); (case side4 => exact HC1.out); rintro e w' ⟨rfl, ⟨nd, rfl⟩⟩; refine ⟨_, rfl, ?_⟩))
    go_ret
    exact ⟨by first | rfl | (simp [errW_none, errW_some] <;> rfl) | (simp [*, errW_none, errW_some] <;> rfl), by repeat (first | (with_reducible first | exact HB.out | apply below_alloc | apply pw_below_drewN | apply below_drew1) | exact HB.out)⟩
  · replace c4 := Bool.eq_false_iff.mpr c4
    subst c4
    have H1 : ((spec_R8Uses.f k l0).bind fun t170 => ((laws_r8At.f l1 0 6).bind fun t173 => ((impl_PhasesOf.f k t170 (wrap64 (1 + t173))).bind fun bt174 => (if bt174.2 = true then (if (((bt174.1.length : Int) == 0) != ((t170.length : Int) == 0)) = true then (laws_FnPhased.j0 k t170 (wrap64 (1 + t173)) bt174.1 true) else (if (bt174.1.length : Int) > 0 then (if 0 < (bt174.1.length : Int) then (laws_FnPhased.j0 k t170 (wrap64 (1 + t173)) bt174.1 ((rd bt174.1 0) != 0)) else (none)) else (laws_FnPhased.j0 k t170 (wrap64 (1 + t173)) bt174.1 false))) else (laws_FnPhased.j0 k t170 (wrap64 (1 + t173)) bt174.1 true))))) = some r := by rw [if_neg (show ¬ (false = true) by decide)] at H; exact H
    clear H
    have H := H1
    clear H1
    replace H := Option.bind_eq_some_iff.mp H
    obtain ⟨t170, A50, H⟩ := H
    replace H : ((laws_r8At.f l1 0 6).bind fun t173 => ((impl_PhasesOf.f k t170 (wrap64 (1 + t173))).bind fun bt174 => (if bt174.2 = true then (if (((bt174.1.length : Int) == 0) != ((t170.length : Int) == 0)) = true then (laws_FnPhased.j0 k t170 (wrap64 (1 + t173)) bt174.1 true) else (if (bt174.1.length : Int) > 0 then (if 0 < (bt174.1.length : Int) then (laws_FnPhased.j0 k t170 (wrap64 (1 + t173)) bt174.1 ((rd bt174.1 0) != 0)) else (none)) else (laws_FnPhased.j0 k t170 (wrap64 (1 + t173)) bt174.1 false))) else (laws_FnPhased.j0 k t170 (wrap64 (1 + t173)) bt174.1 true)))) = some r := H
    have A5 := Aside0.mk A50
    clear A50
    replace H := Option.bind_eq_some_iff.mp H
    obtain ⟨t173, A60, H⟩ := H
    replace H : ((impl_PhasesOf.f k t170 (wrap64 (1 + t173))).bind fun bt174 => (if bt174.2 = true then (if (((bt174.1.length : Int) == 0) != ((t170.length : Int) == 0)) = true then (laws_FnPhased.j0 k t170 (wrap64 (1 + t173)) bt174.1 true) else (if (bt174.1.length : Int) > 0 then (if 0 < (bt174.1.length : Int) then (laws_FnPhased.j0 k t170 (wrap64 (1 + t173)) bt174.1 ((rd bt174.1 0) != 0)) else (none)) else (laws_FnPhased.j0 k t170 (wrap64 (1 + t173)) bt174.1 false))) else (laws_FnPhased.j0 k t170 (wrap64 (1 + t173)) bt174.1 true))) = some r := H
    have A6 := Aside0.mk A60
    clear A60
    replace H := Option.bind_eq_some_iff.mp H
    obtain ⟨⟨t174, t175⟩, A70, H⟩ := H
    replace H : (if t175 = true then (if (((t174.length : Int) == 0) != ((t170.length : Int) == 0)) = true then (laws_FnPhased.j0 k t170 (wrap64 (1 + t173)) t174 true) else (if (t174.length : Int) > 0 then (if 0 < (t174.length : Int) then (laws_FnPhased.j0 k t170 (wrap64 (1 + t173)) t174 ((rd t174 0) != 0)) else (none)) else (laws_FnPhased.j0 k t170 (wrap64 (1 + t173)) t174 false))) else (laws_FnPhased.j0 k t170 (wrap64 (1 + t173)) t174 true)) = some r := H
    have A7 := Aside0.mk A70
    clear A70
    have HC8 := Aside0.mk H
    clear H
    go_enter Try.func3, Try.ntmps3
    go_upto_region 6 with (first | ((with_reducible refine gate_callee (f := 15) rfl ?_); refine goesL_ (some 17) rfl rfl Try.func15 (by kernel_rfl) rfl #[.slice A0 l0.length c0, .slice A1 l1.length c1] rfl (by (try simp only [List.map_toArray, List.map_cons, List.map_nil]); first | done | rfl | (simp only [List.length_drop, List.length_take]; rfl)) ?_; (with_reducible refine (laws_r8Long.calls _ _ l0 _ _ l1 false _ ?side1 ?side2 ?side3 ?side4 A3.out).mono ?_); (case side1 => repeat (first | exact HR0.out | (with_reducible refine Kd.C_alloc ?_ _) | (with_reducible refine Kd.C_drewN ?_ _) | (with_reducible refine Kd.C_drew ?_))); (case side2 => exact HC0.out); (case side3 => repeat (first | exact HR1.out | (with_reducible refine Kd.C_alloc ?_ _) | (with_reducible refine Kd.C_drewN ?_ _) | (with_reducible refine Kd.C_drew ?_))); (case side4 => exact HC1.out); rintro e w' ⟨rfl, ⟨nd, rfl⟩⟩; refine ⟨_, rfl, ?_⟩) | ((with_reducible refine gate_callee (f := 16) rfl ?_); refine goesL_ (some 19) rfl rfl Try.func16 (by kernel_rfl) rfl #[.slice A0 l0.length c0] rfl (by (try simp only [List.map_toArray, List.map_cons, List.map_nil]); first | done | rfl | (simp only [List.length_drop, List.length_take]; rfl)) ?_; (with_reducible refine (spec_R8Uses.calls k _ _ l0 t170 _ ?side1 ?side2 A5.out).mono ?_); (case side1 => repeat (first | exact HR0.out | (with_reducible refine Kd.C_alloc ?_ _) | (with_reducible refine Kd.C_drewN ?_ _) | (with_reducible refine Kd.C_drew ?_))); (case side2 => exact HC0.out); rintro e w9 ⟨v171, rfl, ho0, hb⟩; refine ⟨_, rfl, ?_⟩; have n0_ := Aside0.mk (Kd.R_lower ho0 (below_size (by repeat (first | (with_reducible first | exact HB.out | apply below_alloc | apply pw_below_drewN | apply below_drew1) | exact HB.out)))); have n1_ := Aside0.mk (below_step (by repeat (first | (with_reducible first | exact HB.out | apply below_alloc | apply pw_below_drewN | apply below_drew1) | exact HB.out)) hb); clear HB; have HO172 := n0_; have HB := n1_; clear n0_ n1_; (try clear hb); (try clear hb2); (try clear hk); (try clear hi); (try clear ho0)) | ((with_reducible refine gate_callee (f := 17) rfl ?_); refine goesL_ (some 21) rfl rfl Try.func17 (by kernel_rfl) rfl #[.slice A1 l1.length c1, .int .i64 0, .int .i64 6] rfl (by (try simp only [List.map_toArray, List.map_cons, List.map_nil]); first | done | rfl | (simp only [List.length_drop, List.length_take]; rfl)) ?_; (with_reducible refine (laws_r8At.calls _ _ l1 0 6 t173 _ ?side1 ?side2 A6.out).mono ?_); (case side1 => repeat (first | exact (Kd.C_below HR1.out HB.out) | (with_reducible refine Kd.C_alloc ?_ _) | (with_reducible refine Kd.C_drewN ?_ _) | (with_reducible refine Kd.C_drew ?_))); (case side2 => exact HC1.out); rintro e w' ⟨rfl, ⟨nd, rfl⟩⟩; refine ⟨_, rfl, ?_⟩; obtain ⟨Ao10, co10, eo10⟩ := Kd.R_slice HO172.out; subst eo10) | ((with_reducible refine gate_callee (f := 18) rfl ?_); refine goesL_ (some 26) rfl rfl Try.func18 (by kernel_rfl) rfl #[.slice Ao10 t170.length co10, .int .i64 (wrap64 (1 + t173))] rfl (by (try simp only [List.map_toArray, List.map_cons, List.map_nil]); first | done | rfl | (simp only [List.length_drop, List.length_take]; rfl)) ?_; (with_reducible refine (impl_PhasesOf.calls k _ _ t170 (wrap64 (1 + t173)) t174 t175 _ ?side1 ?side2 A7.out).mono ?_); (case side1 => repeat (first | exact (Kd.R_reads' HO172.out).2.2 | (with_reducible refine Kd.C_alloc ?_ _) | (with_reducible refine Kd.C_drewN ?_ _) | (with_reducible refine Kd.C_drew ?_))); (case side2 => exact (Kd.R_reads' HO172.out).2.1); rintro e w11 ⟨v176, rfl, ho0, hb⟩; refine ⟨_, rfl, ?_⟩; have n0_ := Aside0.mk (Kd.R_elder' (by (with_reducible repeat (first | apply Kd.R_alloc | apply Kd.R_drewN | apply Kd.R_drew)); exact HO172.out) (Kd.R_base ho0) hb); have n1_ := Aside0.mk (Kd.R_lower (Kd.R_new' ho0 (Kd.R_lt (by (with_reducible repeat (first | apply Kd.R_alloc | apply Kd.R_drewN | apply Kd.R_drew)); exact HO172.out))) (below_size (by repeat (first | (with_reducible first | exact HB.out | apply below_alloc | apply pw_below_drewN | apply below_drew1) | exact HB.out)))); have n2_ := Aside0.mk (below_step (by repeat (first | (with_reducible first | exact HB.out | apply below_alloc | apply pw_below_drewN | apply below_drew1) | exact HB.out)) hb); clear HO172; clear HB; have HO172 := n0_; have HO177 := n1_; have HB := n2_; clear n0_ n1_ n2_; (try clear hb); (try clear hb2); (try clear hk); (try clear hi); (try clear ho0)))
    (try simp only [Act.put, List.setIfInBounds_toArray, List.set_cons_zero, List.set_cons_succ])
    go_cut [50] (fun v50 wc => ∃ (kq : Nat) (x50_7 : Bool), v50 = .bool x50_7 ∧ Aside0 (laws_FnPhased.j0 kq t170 (wrap64 (1 + t173)) t174 x50_7 = some r) ∧ Aside0 (kq ≤ k) ∧ Aside0 (Kd.R (Kd.int .i64) 2 wc w.heap.size (fun k_ => some k_ ≠ (v176 : Value).ownBlock) (.slice Ao10 t170.length co10) t170) ∧ Aside0 (Kd.R (Kd.int .i64) 2 wc w.heap.size (fun k_ => some k_ ≠ ((.slice Ao10 t170.length co10) : Value).ownBlock) v176 t174) ∧ Aside0 (Below w.heap.size w wc))
    case first =>
      have H := HC8.out
      clear HC8
      by_cases c12 : t175 = true
      · subst c12
        have H1 : (if (((t174.length : Int) == 0) != ((t170.length : Int) == 0)) = true then (laws_FnPhased.j0 k t170 (wrap64 (1 + t173)) t174 true) else (if (t174.length : Int) > 0 then (if 0 < (t174.length : Int) then (laws_FnPhased.j0 k t170 (wrap64 (1 + t173)) t174 ((rd t174 0) != 0)) else (none)) else (laws_FnPhased.j0 k t170 (wrap64 (1 + t173)) t174 false))) = some r := by rw [if_pos rfl] at H; exact H
        clear H
        have H := H1
        clear H1
        by_cases c13 : (((t174.length : Int) == 0) != ((t170.length : Int) == 0)) = true
        · rw [if_pos c13] at H
          have c13b0 : (((t174.length : Int) == 0) != ((t170.length : Int) == 0)) = true := c13
          (try (have c13b1 : decide (((t174.length : Int) == 0) = ((t170.length : Int) == 0)) = false := by simpa using c13))
          (try (have c13b2 : (((t174.length : Int) == 0) == ((t170.length : Int) == 0)) = false := by simpa using c13))
          (try (have c13b3 : ¬ (((t174.length : Int) == 0) = ((t170.length : Int) == 0)) := by simpa using c13))
          clear c13
          (first | rw [c13b0] | (simp only [i64_w, i32_w]; rw [c13b0]) | skip)
          have H' := Aside0.mk H
          clear H
          obtain ⟨Ao14, co14, eo14⟩ := Kd.R_slice HO177.out
          subst eo14
          go_wp2
          go_meet
          case rel => exact ⟨_, (true), (by first | rfl | (simp; done) | (simp [*]; done)), H', ⟨by first | omega | exact Nat.le_refl _⟩, ⟨by (with_reducible repeat (first | apply Kd.R_alloc | apply Kd.R_drewN | apply Kd.R_drew)); exact Kd.R_mono HO172.out (fun _ hk => hk.2)⟩, ⟨by (with_reducible repeat (first | apply Kd.R_alloc | apply Kd.R_drewN | apply Kd.R_drew)); exact Kd.R_mono HO177.out (fun _ hk => hk.2)⟩, ⟨by repeat (first | (with_reducible first | exact HB.out | apply below_alloc | apply pw_below_drewN | apply below_drew1) | exact HB.out)⟩⟩
        · rw [if_neg c13] at H
          have c13b0 : (((t174.length : Int) == 0) != ((t170.length : Int) == 0)) = false := by simpa using c13
          (try (have c13b1 : decide (((t174.length : Int) == 0) = ((t170.length : Int) == 0)) = true := by simpa using c13))
          (try (have c13b2 : (((t174.length : Int) == 0) == ((t170.length : Int) == 0)) = true := by simpa using c13))
          clear c13
          (first | rw [c13b0] | (simp only [i64_w, i32_w]; rw [c13b0]) | skip)
          by_cases c15 : (t174.length : Int) > 0
          · rw [if_pos c15] at H
            have c15b0 : decide (0 < (t174.length : Int)) = true := decide_eq_true c15
            have c15b1 : decide (0 < t174.length) = true := decide_eq_true (by omega)
            clear c15
            by_cases c16 : 0 < (t174.length : Int)
            · rw [if_pos c16] at H
              have c16b0 : decide (0 < (t174.length : Int)) = true := decide_eq_true c16
              have c16b1 : decide (0 < t174.length) = true := decide_eq_true (by omega)
              clear c16
              have H' := Aside0.mk H
              clear H
              obtain ⟨Ao17, co17, eo17⟩ := Kd.R_slice HO177.out
              subst eo17
              have p178 : 0 ≤ (0 : Int) := (by omega)
              have q178 : 0 < (t174.length : Int) := of_decide_eq_true (by first | (with_reducible assumption) | assumption)
              obtain ⟨ad178, e178, hx178_0⟩ := Kd.at_int (Kd.R_reads' HO177.out).2.2 0 p178 q178
              cases e178
              have qi178 : (0 < t174.length) = True := eq_true (by omega)
              (try rw [show ((0 : Int)).toNat = 0 from rfl] at hx178_0)
              (try rw [Addr.add_zero'] at hx178_0)
              replace p178 := eq_true p178
              replace q178 := eq_true q178
              go_wp2
              go_meet
              case rel => exact ⟨_, (((rd t174 0) != 0)), (by first | rfl | (simp; done) | (simp [*]; done)), H', ⟨by first | omega | exact Nat.le_refl _⟩, ⟨by (with_reducible repeat (first | apply Kd.R_alloc | apply Kd.R_drewN | apply Kd.R_drew)); exact Kd.R_mono HO172.out (fun _ hk => hk.2)⟩, ⟨by (with_reducible repeat (first | apply Kd.R_alloc | apply Kd.R_drewN | apply Kd.R_drew)); exact Kd.R_mono HO177.out (fun _ hk => hk.2)⟩, ⟨by repeat (first | (with_reducible first | exact HB.out | apply below_alloc | apply pw_below_drewN | apply below_drew1) | exact HB.out)⟩⟩
            · rw [if_neg c16] at H
              exact absurd H (by simp)
          · rw [if_neg c15] at H
            have c15b0 : decide (0 < (t174.length : Int)) = false := decide_eq_false c15
            have c15b1 : decide (0 < t174.length) = false := decide_eq_false (by omega)
            clear c15
            have H' := Aside0.mk H
            clear H
            obtain ⟨Ao18, co18, eo18⟩ := Kd.R_slice HO177.out
            subst eo18
            go_wp2
            go_meet
            case rel => exact ⟨_, (false), (by first | rfl | (simp; done) | (simp [*]; done)), H', ⟨by first | omega | exact Nat.le_refl _⟩, ⟨by (with_reducible repeat (first | apply Kd.R_alloc | apply Kd.R_drewN | apply Kd.R_drew)); exact Kd.R_mono HO172.out (fun _ hk => hk.2)⟩, ⟨by (with_reducible repeat (first | apply Kd.R_alloc | apply Kd.R_drewN | apply Kd.R_drew)); exact Kd.R_mono HO177.out (fun _ hk => hk.2)⟩, ⟨by repeat (first | (with_reducible first | exact HB.out | apply below_alloc | apply pw_below_drewN | apply below_drew1) | exact HB.out)⟩⟩
      · replace c12 := Bool.eq_false_iff.mpr c12
        subst c12
        have H1 : (laws_FnPhased.j0 k t170 (wrap64 (1 + t173)) t174 true) = some r := by rw [if_neg (show ¬ (false = true) by decide)] at H; exact H
        clear H
        have H := H1
        clear H1
        have H' := Aside0.mk H
        clear H
        go_wp2
        go_meet
        case rel => exact ⟨_, (true), (by first | rfl | (simp; done) | (simp [*]; done)), H', ⟨by first | omega | exact Nat.le_refl _⟩, ⟨by (with_reducible repeat (first | apply Kd.R_alloc | apply Kd.R_drewN | apply Kd.R_drew)); exact Kd.R_mono HO172.out (fun _ hk => hk.2)⟩, ⟨by (with_reducible repeat (first | apply Kd.R_alloc | apply Kd.R_drewN | apply Kd.R_drew)); exact Kd.R_mono HO177.out (fun _ hk => hk.2)⟩, ⟨by repeat (first | (with_reducible first | exact HB.out | apply below_alloc | apply pw_below_drewN | apply below_drew1) | exact HB.out)⟩⟩
    case rest =>
      clear HC8
      try clear c1
      try clear p1
      try clear q1
      try clear hx1
      try clear qi1
      try clear p2
      try clear c3
      try clear c4
      try clear p6
      try clear c12
      try clear c13
      try clear c13b0
      try clear c13b1
      try clear c13b2
      try clear c15
      try clear c15b0
      try clear c15b1
      try clear c16
      try clear c16b0
      try clear c16b1
      try clear c17
      try clear p17
      try clear q17
      try clear hx17
      try clear qi17
      try clear c18
      try clear hx178_0
      try clear p178
      try clear q178
      obtain ⟨kq, x50_7, rfl, HA, HJ7, HO_5, HO_7, HB⟩ := hcut
      cases kq with
      | zero => exact absurd HA.out (by simp [laws_FnPhased.j0])
      | succ kj7 =>
        have H := HA.out
        clear HA
        simp only [laws_FnPhased.j0] at H
        by_cases c19 : x50_7 = true
        · subst c19
          have H1 : (some false) = some r := by rw [if_pos rfl] at H; exact H
          clear H
          have H := H1
          clear H1
          obtain rfl := Option.some.inj H
          go_wp2
          go_ret
          exact ⟨by first | rfl | (simp [errW_none, errW_some] <;> rfl) | (simp [*, errW_none, errW_some] <;> rfl), by repeat (first | (with_reducible first | exact HB.out | apply below_alloc | apply pw_below_drewN | apply below_drew1) | exact HB.out)⟩
        · replace c19 := Bool.eq_false_iff.mpr c19
          subst c19
          have H1 : (laws_FnPhased.l0 kj7 t170 (wrap64 (1 + t173)) t174 0) = some r := by rw [if_neg (show ¬ (false = true) by decide)] at H; exact H
          clear H
          have H := H1
          clear H1
          have H' := Aside0.mk H
          clear H
          go_wp2
          go_loopg [9] kj7 (fun kq v9 w' => ∃ (x9_2 : Int), v9 = .int .i64 x9_2 ∧ Aside0 (laws_FnPhased.l0 kq t170 (wrap64 (1 + t173)) t174 x9_2 = some r) ∧ Aside0 (kq ≤ kj7) ∧ Aside0 (Kd.R (Kd.int .i64) 2 w' w.heap.size (fun k_ => some k_ ≠ (v176 : Value).ownBlock) (.slice Ao10 t170.length co10) t170) ∧ Aside0 (Kd.R (Kd.int .i64) 2 w' w.heap.size (fun k_ => some k_ ≠ ((.slice Ao10 t170.length co10) : Value).ownBlock) v176 t174) ∧ Aside0 (Below w.heap.size w w'))
          case atStart => exact ⟨(0), (by first | rfl | (simp; done) | (simp [*]; done)), H', ⟨Nat.le_refl _⟩, ⟨by (with_reducible repeat (first | apply Kd.R_alloc | apply Kd.R_drewN | apply Kd.R_drew)); exact HO_5.out⟩, ⟨by (with_reducible repeat (first | apply Kd.R_alloc | apply Kd.R_drewN | apply Kd.R_drew)); exact HO_7.out⟩, ⟨by repeat (first | (with_reducible first | exact HB.out | apply below_alloc | apply pw_below_drewN | apply below_drew1) | exact HB.out)⟩⟩
          case round =>
            clear H'
            try clear c1
            try clear p1
            try clear q1
            try clear hx1
            try clear qi1
            try clear p2
            try clear c3
            try clear c4
            try clear p6
            try clear c12
            try clear c13
            try clear c13b0
            try clear c13b1
            try clear c13b2
            try clear c15
            try clear c15b0
            try clear c15b1
            try clear c16
            try clear c16b0
            try clear c16b1
            try clear c17
            try clear p17
            try clear q17
            try clear hx17
            try clear qi17
            try clear c18
            try clear c19
            try clear hx178_0
            try clear p1
            try clear p17
            try clear p178
            try clear p2
            try clear p6
            try clear q1
            try clear q17
            try clear q178
            obtain ⟨x9_2, rfl, HA, HK2, HO_5, HO_7, HB⟩ := hrel
            cases gk with
            | zero => exact absurd HA.out (by simp [laws_FnPhased.l0])
            | succ k2 =>
              have H := HA.out
              clear HA
              simp only [laws_FnPhased.l0] at H
              by_cases c20 : x9_2 < (t174.length : Int)
              · rw [if_pos c20] at H
                have c20b0 : decide (x9_2 < (t174.length : Int)) = true := decide_eq_true c20
                clear c20
                have HC21 := Aside0.mk H
                clear H
                obtain ⟨Ao22, co22, eo22⟩ := Kd.R_slice HO_7.out
                subst eo22
                go_upto_if 63 with (fail)
                go_cut [10] (fun v10 wc => ∃ (kq : Nat) (x10_20 : Int), v10 = .int .i64 x10_20 ∧ Aside0 (laws_FnPhased.j2 kq t170 (wrap64 (1 + t173)) t174 x9_2 x10_20 = some r) ∧ Aside0 (kq ≤ k2) ∧ Aside0 (Kd.R (Kd.int .i64) 2 wc w.heap.size (fun k_ => some k_ ≠ ((.slice Ao22 t174.length co22) : Value).ownBlock) (.slice Ao10 t170.length co10) t170) ∧ Aside0 (Kd.R (Kd.int .i64) 2 wc w.heap.size (fun k_ => some k_ ≠ ((.slice Ao10 t170.length co10) : Value).ownBlock) (.slice Ao22 t174.length co22) t174) ∧ Aside0 (Below w.heap.size w wc))
                case first =>
                  have H := HC21.out
                  clear HC21
                  by_cases c23 : (wrap64 (x9_2 + 1)) < (t174.length : Int)
                  · rw [if_pos c23] at H
                    have c23b0 : decide ((wrap64 (x9_2 + 1)) < (t174.length : Int)) = true := decide_eq_true c23
                    clear c23
                    (first | rw [c23b0] | (simp only [i64_w, i32_w]; rw [c23b0]) | skip)
                    obtain ⟨ji24, hji24⟩ : ∃ j_ : Int, (wrap64 (x9_2 + 1)) = j_ := ⟨_, rfl⟩
                    replace H : (if 0 ≤ (ji24) then (laws_FnPhased.j2 k2 t170 (wrap64 (1 + t173)) t174 x9_2 (rd t174 (ji24))) else (none)) = some r := by first | (rw [hji24] at H; exact H) | (simp only [hji24] at H ⊢; exact H)
                    (try rw [hji24] at c23b0)
                    have hji24w : (IntKind.i64.wrap (x9_2 + 1)) = ji24 := (i64_w _).trans hji24
                    by_cases c25 : 0 ≤ (ji24)
                    · rw [if_pos c25] at H
                      have c25b0 : decide (0 ≤ (ji24)) = true := decide_eq_true c25
                      clear c25
                      have H' := Aside0.mk H
                      clear H
                      have p179 : 0 ≤ ((ji24) : Int) := of_decide_eq_true (by first | (with_reducible assumption) | assumption)
                      have q179 : (ji24) < (t174.length : Int) := of_decide_eq_true (by first | (with_reducible assumption) | assumption)
                      obtain ⟨ad179, e179, hx179_0⟩ := Kd.at_int (Kd.R_reads' HO_7.out).2.2 (ji24) p179 q179
                      cases e179
                      replace p179 := eq_true p179
                      replace q179 := eq_true q179
                      go_wp2
                      go_meet
                      case rel => exact ⟨_, (rd t174 (ji24)), (by first | rfl | (simp; done) | (simp only [← hji24] <;> (first | rfl | simp)) | (simp [*]; done)), H', ⟨by have := HJ7.out; have := HK2.out; first | omega | exact Nat.le_refl _⟩, ⟨by (with_reducible repeat (first | apply Kd.R_alloc | apply Kd.R_drewN | apply Kd.R_drew)); exact HO_5.out⟩, ⟨by (with_reducible repeat (first | apply Kd.R_alloc | apply Kd.R_drewN | apply Kd.R_drew)); exact HO_7.out⟩, ⟨by repeat (first | (with_reducible first | exact HB.out | apply below_alloc | apply pw_below_drewN | apply below_drew1) | exact HB.out)⟩⟩
                    · rw [if_neg c25] at H
                      exact absurd H (by simp)
                  · rw [if_neg c23] at H
                    have c23b0 : decide ((wrap64 (x9_2 + 1)) < (t174.length : Int)) = false := decide_eq_false c23
                    clear c23
                    (first | rw [c23b0] | (simp only [i64_w, i32_w]; rw [c23b0]) | skip)
                    have H' := Aside0.mk H
                    clear H
                    go_wp2
                    go_meet
                    case rel => exact ⟨_, ((t170.length : Int)), (by first | rfl | (simp; done) | (simp [*]; done)), H', ⟨by have := HJ7.out; have := HK2.out; first | omega | exact Nat.le_refl _⟩, ⟨by (with_reducible repeat (first | apply Kd.R_alloc | apply Kd.R_drewN | apply Kd.R_drew)); exact HO_5.out⟩, ⟨by (with_reducible repeat (first | apply Kd.R_alloc | apply Kd.R_drewN | apply Kd.R_drew)); exact HO_7.out⟩, ⟨by repeat (first | (with_reducible first | exact HB.out | apply below_alloc | apply pw_below_drewN | apply below_drew1) | exact HB.out)⟩⟩
                case rest =>
                  clear HC21
                  try clear c1
                  try clear p1
                  try clear q1
                  try clear hx1
                  try clear qi1
                  try clear c2
                  try clear p2
                  try clear c3
                  try clear c4
                  try clear p6
                  try clear c12
                  try clear c13
                  try clear c13b0
                  try clear c13b1
                  try clear c13b2
                  try clear c15
                  try clear c15b0
                  try clear c15b1
                  try clear c16
                  try clear c16b0
                  try clear c16b1
                  try clear c17
                  try clear p17
                  try clear q17
                  try clear hx17
                  try clear qi17
                  try clear c18
                  try clear c19
                  try clear c20
                  try clear c20b0
                  try clear c23
                  try clear c23b0
                  try clear c25
                  try clear c25b0
                  try clear hx178_0
                  try clear hx179_0
                  try clear p1
                  try clear p17
                  try clear p178
                  try clear p179
                  try clear p2
                  try clear p6
                  try clear q1
                  try clear q17
                  try clear q178
                  try clear q179
                  obtain ⟨kq, x10_20, rfl, HA, HJ20, HO_5, HO_7, HB⟩ := hcut
                  cases kq with
                  | zero => exact absurd HA.out (by simp [laws_FnPhased.j2])
                  | succ kj20 =>
                    have H := HA.out
                    clear HA
                    simp only [laws_FnPhased.j2] at H
                    have HC26 := Aside0.mk H
                    clear H
                    go_upto_region 14 with (fail)
                    go_cut [87] (fun v87 wc => ∃ (kq : Nat) (x87_25 : Bool), v87 = .bool x87_25 ∧ Aside0 (laws_FnPhased.j3 kq t170 (wrap64 (1 + t173)) t174 x9_2 x10_20 x87_25 = some r) ∧ Aside0 (kq ≤ kj20) ∧ Aside0 (Kd.R (Kd.int .i64) 2 wc w.heap.size (fun k_ => some k_ ≠ ((.slice Ao22 t174.length co22) : Value).ownBlock) (.slice Ao10 t170.length co10) t170) ∧ Aside0 (Kd.R (Kd.int .i64) 2 wc w.heap.size (fun k_ => some k_ ≠ ((.slice Ao10 t170.length co10) : Value).ownBlock) (.slice Ao22 t174.length co22) t174) ∧ Aside0 (Below w.heap.size w wc))
                    case first =>
                      have H := HC26.out
                      clear HC26
                      by_cases c27 : 0 ≤ x9_2
                      · rw [if_pos c27] at H
                        have c27b0 : decide (0 ≤ x9_2) = true := decide_eq_true c27
                        clear c27
                        (first | rw [c27b0] | (simp only [i64_w, i32_w]; rw [c27b0]) | skip)
                        by_cases c28 : x9_2 < (t174.length : Int)
                        · rw [if_pos c28] at H
                          have c28b0 : decide (x9_2 < (t174.length : Int)) = true := decide_eq_true c28
                          clear c28
                          by_cases c29 : (rd t174 x9_2) < 0
                          · rw [if_pos c29] at H
                            have c29b0 : decide ((rd t174 x9_2) < 0) = true := decide_eq_true c29
                            clear c29
                            have H' := Aside0.mk H
                            clear H
                            have p180 : 0 ≤ (x9_2 : Int) := of_decide_eq_true (by first | (with_reducible assumption) | assumption)
                            have q180 : x9_2 < (t174.length : Int) := of_decide_eq_true (by first | (with_reducible assumption) | assumption)
                            obtain ⟨ad180, e180, hx180_0⟩ := Kd.at_int (Kd.R_reads' HO_7.out).2.2 x9_2 p180 q180
                            cases e180
                            replace p180 := eq_true p180
                            replace q180 := eq_true q180
                            go_wp2
                            go_meet
                            case rel => exact ⟨_, (true), (by first | rfl | (simp; done) | (simp [*]; done)), H', ⟨by have := HJ7.out; have := HK2.out; have := HJ20.out; first | omega | exact Nat.le_refl _⟩, ⟨by (with_reducible repeat (first | apply Kd.R_alloc | apply Kd.R_drewN | apply Kd.R_drew)); exact HO_5.out⟩, ⟨by (with_reducible repeat (first | apply Kd.R_alloc | apply Kd.R_drewN | apply Kd.R_drew)); exact HO_7.out⟩, ⟨by repeat (first | (with_reducible first | exact HB.out | apply below_alloc | apply pw_below_drewN | apply below_drew1) | exact HB.out)⟩⟩
                          · rw [if_neg c29] at H
                            have c29b0 : decide ((rd t174 x9_2) < 0) = false := decide_eq_false c29
                            clear c29
                            by_cases c30 : x10_20 ≤ (rd t174 x9_2)
                            · rw [if_pos c30] at H
                              have c30b0 : decide (x10_20 ≤ (rd t174 x9_2)) = true := decide_eq_true c30
                              clear c30
                              have H' := Aside0.mk H
                              clear H
                              have p180 : 0 ≤ (x9_2 : Int) := of_decide_eq_true (by first | (with_reducible assumption) | assumption)
                              have q180 : x9_2 < (t174.length : Int) := of_decide_eq_true (by first | (with_reducible assumption) | assumption)
                              obtain ⟨ad180, e180, hx180_0⟩ := Kd.at_int (Kd.R_reads' HO_7.out).2.2 x9_2 p180 q180
                              cases e180
                              replace p180 := eq_true p180
                              replace q180 := eq_true q180
                              have p181 : 0 ≤ (x9_2 : Int) := of_decide_eq_true (by first | (with_reducible assumption) | assumption)
                              have q181 : x9_2 < (t174.length : Int) := of_decide_eq_true (by first | (with_reducible assumption) | assumption)
                              obtain ⟨ad181, e181, hx181_0⟩ := Kd.at_int (Kd.R_reads' HO_7.out).2.2 x9_2 p181 q181
                              obtain rfl : ad180 = ad181 := (by injection e181)
                              replace p181 := eq_true p181
                              replace q181 := eq_true q181
                              go_wp2
                              go_meet
                              case rel => exact ⟨_, (true), (by first | rfl | (simp; done) | (simp [*]; done)), H', ⟨by have := HJ7.out; have := HK2.out; have := HJ20.out; first | omega | exact Nat.le_refl _⟩, ⟨by (with_reducible repeat (first | apply Kd.R_alloc | apply Kd.R_drewN | apply Kd.R_drew)); exact HO_5.out⟩, ⟨by (with_reducible repeat (first | apply Kd.R_alloc | apply Kd.R_drewN | apply Kd.R_drew)); exact HO_7.out⟩, ⟨by repeat (first | (with_reducible first | exact HB.out | apply below_alloc | apply pw_below_drewN | apply below_drew1) | exact HB.out)⟩⟩
                            · rw [if_neg c30] at H
                              have c30b0 : decide (x10_20 ≤ (rd t174 x9_2)) = false := decide_eq_false c30
                              clear c30
                              have H' := Aside0.mk H
                              clear H
                              have p180 : 0 ≤ (x9_2 : Int) := of_decide_eq_true (by first | (with_reducible assumption) | assumption)
                              have q180 : x9_2 < (t174.length : Int) := of_decide_eq_true (by first | (with_reducible assumption) | assumption)
                              obtain ⟨ad180, e180, hx180_0⟩ := Kd.at_int (Kd.R_reads' HO_7.out).2.2 x9_2 p180 q180
                              cases e180
                              replace p180 := eq_true p180
                              replace q180 := eq_true q180
                              have p181 : 0 ≤ (x9_2 : Int) := of_decide_eq_true (by first | (with_reducible assumption) | assumption)
                              have q181 : x9_2 < (t174.length : Int) := of_decide_eq_true (by first | (with_reducible assumption) | assumption)
                              obtain ⟨ad181, e181, hx181_0⟩ := Kd.at_int (Kd.R_reads' HO_7.out).2.2 x9_2 p181 q181
                              obtain rfl : ad180 = ad181 := (by injection e181)
                              replace p181 := eq_true p181
                              replace q181 := eq_true q181
                              go_wp2
                              go_meet
                              case rel => exact ⟨_, (decide (x10_20 > (t170.length : Int))), (by first | rfl | (simp; done) | (simp [*]; done)), H', ⟨by have := HJ7.out; have := HK2.out; have := HJ20.out; first | omega | exact Nat.le_refl _⟩, ⟨by (with_reducible repeat (first | apply Kd.R_alloc | apply Kd.R_drewN | apply Kd.R_drew)); exact HO_5.out⟩, ⟨by (with_reducible repeat (first | apply Kd.R_alloc | apply Kd.R_drewN | apply Kd.R_drew)); exact HO_7.out⟩, ⟨by repeat (first | (with_reducible first | exact HB.out | apply below_alloc | apply pw_below_drewN | apply below_drew1) | exact HB.out)⟩⟩
                        · rw [if_neg c28] at H
                          exact absurd H (by simp)
                      · rw [if_neg c27] at H
                        exact absurd H (by simp)
                    case rest =>
                      clear HC26
                      try clear c1
                      try clear p1
                      try clear q1
                      try clear hx1
                      try clear qi1
                      try clear c2
                      try clear p2
                      try clear c3
                      try clear c4
                      try clear p6
                      try clear c12
                      try clear c13
                      try clear c13b0
                      try clear c13b1
                      try clear c13b2
                      try clear c15
                      try clear c15b0
                      try clear c15b1
                      try clear c16
                      try clear c16b0
                      try clear c16b1
                      try clear c17
                      try clear p17
                      try clear q17
                      try clear hx17
                      try clear qi17
                      try clear c18
                      try clear p18
                      try clear q18
                      try clear hx18
                      try clear c19
                      try clear c20
                      try clear c20b0
                      try clear c23
                      try clear c23b0
                      try clear c25
                      try clear c25b0
                      try clear c27
                      try clear c27b0
                      try clear c28
                      try clear c28b0
                      try clear c29
                      try clear c29b0
                      try clear c30
                      try clear c30b0
                      try clear hx178_0
                      try clear hx179_0
                      try clear hx180_0
                      try clear hx181_0
                      try clear p1
                      try clear p17
                      try clear p178
                      try clear p179
                      try clear p180
                      try clear p181
                      try clear p2
                      try clear p6
                      try clear q1
                      try clear q17
                      try clear q178
                      try clear q179
                      try clear q180
                      try clear q181
                      obtain ⟨kq, x87_25, rfl, HA, HJ25, HO_5, HO_7, HB⟩ := hcut
                      cases kq with
                      | zero => exact absurd HA.out (by simp [laws_FnPhased.j3])
                      | succ kj25 =>
                        have H := HA.out
                        clear HA
                        simp only [laws_FnPhased.j3] at H
                        by_cases c31 : x87_25 = true
                        · subst c31
                          have H1 : (some false) = some r := by rw [if_pos rfl] at H; exact H
                          clear H
                          have H := H1
                          clear H1
                          obtain rfl := Option.some.inj H
                          go_wp2
                          go_ret
                          exact ⟨by first | rfl | (simp [errW_none, errW_some] <;> rfl) | (simp [*, errW_none, errW_some] <;> rfl), by repeat (first | (with_reducible first | exact HB.out | apply below_alloc | apply pw_below_drewN | apply below_drew1) | exact HB.out)⟩
                        · replace c31 := Bool.eq_false_iff.mpr c31
                          subst c31
                          have H1 : (if 0 ≤ x9_2 then (if x9_2 < (t174.length : Int) then (if 0 ≤ (rd t174 x9_2) then (if (rd t174 x9_2) ≤ x10_20 then (if x10_20 ≤ (t170.length : Int) then ((impl_AddressesOf.f ((t170.take (x10_20 : Int).toNat).drop ((rd t174 x9_2) : Int).toNat)).bind fun bt187 => (if bt187.2 = true then (laws_FnPhased.j4 kj25 t170 (wrap64 (1 + t173)) t174 x9_2 x10_20 (decide ((bt187.1.length : Int) > (wrap64 (1 + t173))))) else (laws_FnPhased.j4 kj25 t170 (wrap64 (1 + t173)) t174 x9_2 x10_20 true))) else (none)) else (none)) else (none)) else (none)) else (none)) = some r := by rw [if_neg (show ¬ (false = true) by decide)] at H; exact H
                          clear H
                          have H := H1
                          clear H1
                          by_cases c32 : 0 ≤ x9_2
                          · rw [if_pos c32] at H
                            have c32b0 : decide (0 ≤ x9_2) = true := decide_eq_true c32
                            clear c32
                            by_cases c33 : x9_2 < (t174.length : Int)
                            · rw [if_pos c33] at H
                              have c33b0 : decide (x9_2 < (t174.length : Int)) = true := decide_eq_true c33
                              clear c33
                              by_cases c34 : 0 ≤ (rd t174 x9_2)
                              · rw [if_pos c34] at H
                                have c34b0 := eq_true c34
                                have c34b1 : decide (0 ≤ (rd t174 x9_2)) = true := decide_eq_true c34
                                clear c34
                                by_cases c35 : (rd t174 x9_2) ≤ x10_20
                                · rw [if_pos c35] at H
                                  have c35b0 := eq_true c35
                                  have c35b1 : decide ((rd t174 x9_2) ≤ x10_20) = true := decide_eq_true c35
                                  clear c35
                                  by_cases c36 : x10_20 ≤ (t170.length : Int)
                                  · rw [if_pos c36] at H
                                    have c36b0 := eq_true c36
                                    have c36b1 : decide (x10_20 ≤ (t170.length : Int)) = true := decide_eq_true c36
                                    clear c36
                                    obtain ⟨y183, hy183⟩ : ∃ y_ : List Int, y_ = ((t170.take (x10_20 : Int).toNat).drop ((rd t174 x9_2) : Int).toNat) := ⟨_, rfl⟩
                                    replace H : ((impl_AddressesOf.f y183).bind fun bt187 => (if bt187.2 = true then (laws_FnPhased.j4 kj25 t170 (wrap64 (1 + t173)) t174 x9_2 x10_20 (decide ((bt187.1.length : Int) > (wrap64 (1 + t173))))) else (laws_FnPhased.j4 kj25 t170 (wrap64 (1 + t173)) t174 x9_2 x10_20 true))) = some r := by first | (rw [hy183]; with_reducible exact H) | (have H2_ := (Option.bind_some _ _).symm.trans H; rw [hy183]; with_reducible exact H2_) | (have H2_ := (Option.bind_some _ _).symm.trans H; with_reducible exact H2_) | with_reducible exact H | (rw [hy183]; exact H) | exact H
                                    have Ny183 := Aside0.mk hy183
                                    clear hy183
                                    replace H := Option.bind_eq_some_iff.mp H
                                    obtain ⟨⟨t187, t188⟩, A370, H⟩ := H
                                    replace H : (if t188 = true then (laws_FnPhased.j4 kj25 t170 (wrap64 (1 + t173)) t174 x9_2 x10_20 (decide ((t187.length : Int) > (wrap64 (1 + t173))))) else (laws_FnPhased.j4 kj25 t170 (wrap64 (1 + t173)) t174 x9_2 x10_20 true)) = some r := H
                                    have A37 := Aside0.mk A370
                                    clear A370
                                    have HC38 := Aside0.mk H
                                    clear H
                                    have p182 : 0 ≤ (x9_2 : Int) := of_decide_eq_true (by first | (with_reducible assumption) | assumption)
                                    have q182 : x9_2 < (t174.length : Int) := of_decide_eq_true (by first | (with_reducible assumption) | assumption)
                                    obtain ⟨ad182, e182, hx182_0⟩ := Kd.at_int (Kd.R_reads' HO_7.out).2.2 x9_2 p182 q182
                                    cases e182
                                    replace p182 := eq_true p182
                                    replace q182 := eq_true q182
                                    have q39 : (x10_20 : Int) ≤ ((t170.length : Int) : Int) := of_decide_eq_true (by first | (with_reducible assumption) | assumption)
                                    obtain ⟨i039, hi039, _, hsz39, _⟩ := info_parts info2
                                    have hroom39 : t170.length ≤ co10 := (Kd.R_reads' HO_5.out).2.1
                                    have hC39 : Kd.C (Kd.int .i64) _ Ao10 t170.length t170 := (Kd.R_reads' HO_5.out).2.2
                                    have ql39 : ((rd t174 x9_2) : Int) ≤ (x10_20 : Int) := of_decide_eq_true (by first | (with_reducible assumption) | assumption)
                                    have q039 : (0 : Int) ≤ ((rd t174 x9_2) : Int) := of_decide_eq_true (by first | (with_reducible assumption) | assumption)
                                    have hcut39 := cut_mid (P := Try.prog) 24 2 .i64 .i64 Try.underlying24 hi039 1 hsz39 Ao10 t170.length co10 (rd t174 x9_2) x10_20 q039 ql39 q39 hroom39
                                    have hr39 := Kd.C_mid (lo := ((rd t174 x9_2) : Int).toNat) (hi := (x10_20 : Int).toNat) (c := co10) hC39 (by omega) (by omega) hroom39
                                    obtain ⟨A39, hA39⟩ : ∃ A1, A1 = (if co10 = ((rd t174 x9_2) : Int).toNat then Ao10 else (Ao10 : Option Addr).map (·.add (((rd t174 x9_2) : Int).toNat * 1))) := ⟨_, rfl⟩
                                    obtain ⟨c39, hc39⟩ : ∃ c1, c1 = co10 - ((rd t174 x9_2) : Int).toNat := ⟨_, rfl⟩
                                    have hy39 : y183.length = (x10_20 : Int).toNat - ((rd t174 x9_2) : Int).toNat := (by rw [Ny183.out, List.length_drop, List.length_take] <;> omega)
                                    rw [show ((t170).take (x10_20 : Int).toNat).drop ((rd t174 x9_2) : Int).toNat = y183 from Ny183.out.symm] at hr39
                                    replace hr39 : Kd.C (Kd.int .i64) _ A39 y183.length y183 := (by rw [hA39]; exact hr39)
                                    rw [← hy39, ← hA39, ← hc39] at hcut39
                                    have HR186 := Aside0.mk hr39
                                    have HC186 := Aside0.mk (show y183.length ≤ c39 from by rw [hy39, hc39]; exact Nat.sub_le_sub_right (Nat.le_trans (by omega) hroom39) _)
                                    clear hr39 hC39 hroom39 hi039 hsz39 hc39
                                    have KY39 := Aside0.mk hy39
                                    have KA39 := Aside0.mk hA39
                                    clear hy39 hA39
                                    have KL39 := Aside0.mk (show (x10_20 : Int).toNat ≤ t170.length from by omega)
                                    have KM39 := Aside0.mk (show ((rd t174 x9_2) : Int).toNat ≤ (x10_20 : Int).toNat from by omega)
                                    replace q39 := eq_true q39
                                    go_upto_region 17 with (first | ((with_reducible refine gate_callee (f := 19) rfl ?_); refine goesL_ (some 96) rfl rfl Try.func19 (by kernel_rfl) rfl #[.slice A39 y183.length c39] rfl (by (try simp only [List.map_toArray, List.map_cons, List.map_nil]); first | done | rfl | (simp only [List.length_drop, List.length_take]; rfl)) ?_; (with_reducible refine (impl_AddressesOf.calls _ _ y183 t187 t188 _ ?side1 ?side2 A37.out).mono ?_); (case side1 => repeat (first | exact (by repeat (first | (with_reducible exact HR186.out) | (with_reducible refine Kd.C_alloc ?_ _) | (with_reducible refine Kd.C_drewN ?_ _) | (with_reducible refine Kd.C_drew ?_) | exact HR186.out)) | (with_reducible refine Kd.C_alloc ?_ _) | (with_reducible refine Kd.C_drewN ?_ _) | (with_reducible refine Kd.C_drew ?_))); (case side2 => exact HC186.out); rintro e w40 ⟨v189, rfl, ho0, hb⟩; refine ⟨_, rfl, ?_⟩; have n0_ := Aside0.mk (Kd.R_elder' (by (with_reducible repeat (first | apply Kd.R_alloc | apply Kd.R_drewN | apply Kd.R_drew)); exact HO_5.out) (Kd.R_base ho0) hb); have n1_ := Aside0.mk (Kd.R_elder' (by (with_reducible repeat (first | apply Kd.R_alloc | apply Kd.R_drewN | apply Kd.R_drew)); exact HO_7.out) (Kd.R_base ho0) hb); have n2_ := Aside0.mk (Kd.R_lower (Kd.R_new' (Kd.R_new' ho0 (Kd.R_lt (by (with_reducible repeat (first | apply Kd.R_alloc | apply Kd.R_drewN | apply Kd.R_drew)); exact HO_5.out))) (Kd.R_lt (by (with_reducible repeat (first | apply Kd.R_alloc | apply Kd.R_drewN | apply Kd.R_drew)); exact HO_7.out))) (below_size (by repeat (first | (with_reducible first | exact HB.out | apply below_alloc | apply pw_below_drewN | apply below_drew1) | exact HB.out)))); have n3_ := Aside0.mk (Kd.C_below (by repeat (first | (with_reducible exact HR186.out) | (with_reducible refine Kd.C_alloc ?_ _) | (with_reducible refine Kd.C_drewN ?_ _) | (with_reducible refine Kd.C_drew ?_) | exact HR186.out)) hb); have n4_ := Aside0.mk (below_step (by repeat (first | (with_reducible first | exact HB.out | apply below_alloc | apply pw_below_drewN | apply below_drew1) | exact HB.out)) hb); clear HO_5; clear HO_7; clear HR186; clear HB; have HO_5 := n0_; have HO_7 := n1_; have HO190 := n2_; have HR186 := n3_; have HB := n4_; clear n0_ n1_ n2_ n3_ n4_; (try clear hb); (try clear hb2); (try clear hk); (try clear hi); (try clear ho0)))
                                    (try simp only [Act.put, List.setIfInBounds_toArray, List.set_cons_zero, List.set_cons_succ])
                                    go_cut [106] (fun v106 wc => ∃ (kq : Nat) (x106_37 : Bool), v106 = .bool x106_37 ∧ Aside0 (laws_FnPhased.j4 kq t170 (wrap64 (1 + t173)) t174 x9_2 x10_20 x106_37 = some r) ∧ Aside0 (kq ≤ kj25) ∧ Aside0 (Kd.R (Kd.int .i64) 2 wc w.heap.size (fun k_ => some k_ ≠ ((.slice (some ad182) t174.length co22) : Value).ownBlock) (.slice Ao10 t170.length co10) t170) ∧ Aside0 (Kd.R (Kd.int .i64) 2 wc w.heap.size (fun k_ => some k_ ≠ ((.slice Ao10 t170.length co10) : Value).ownBlock) (.slice (some ad182) t174.length co22) t174) ∧ Aside0 (Kd.C (Kd.int .i64) wc A39 y183.length y183) ∧ Aside0 (Below w.heap.size w wc))
                                    case first =>
                                      have H := HC38.out
                                      clear HC38
                                      by_cases c41 : t188 = true
                                      · subst c41
                                        have H1 : (laws_FnPhased.j4 kj25 t170 (wrap64 (1 + t173)) t174 x9_2 x10_20 (decide ((t187.length : Int) > (wrap64 (1 + t173))))) = some r := by rw [if_pos rfl] at H; exact H
                                        clear H
                                        have H := H1
                                        clear H1
                                        have H' := Aside0.mk H
                                        clear H
                                        obtain ⟨Ao42, co42, eo42⟩ := Kd.R_slice HO190.out
                                        subst eo42
                                        go_wp2
                                        go_meet
                                        case rel => exact ⟨_, (decide ((t187.length : Int) > (wrap64 (1 + t173)))), (by first | rfl | (simp; done) | (simp [*]; done)), H', ⟨by have := HJ7.out; have := HK2.out; have := HJ20.out; have := HJ25.out; first | omega | exact Nat.le_refl _⟩, ⟨by (with_reducible repeat (first | apply Kd.R_alloc | apply Kd.R_drewN | apply Kd.R_drew)); exact Kd.R_mono HO_5.out (fun _ hk => hk.1)⟩, ⟨by (with_reducible repeat (first | apply Kd.R_alloc | apply Kd.R_drewN | apply Kd.R_drew)); exact Kd.R_mono HO_7.out (fun _ hk => hk.1)⟩, ⟨by repeat (first | (with_reducible exact HR186.out) | (with_reducible refine Kd.C_alloc ?_ _) | (with_reducible refine Kd.C_drewN ?_ _) | (with_reducible refine Kd.C_drew ?_) | exact HR186.out)⟩, ⟨by repeat (first | (with_reducible first | exact HB.out | apply below_alloc | apply pw_below_drewN | apply below_drew1) | exact HB.out)⟩⟩
                                      · replace c41 := Bool.eq_false_iff.mpr c41
                                        subst c41
                                        have H1 : (laws_FnPhased.j4 kj25 t170 (wrap64 (1 + t173)) t174 x9_2 x10_20 true) = some r := by rw [if_neg (show ¬ (false = true) by decide)] at H; exact H
                                        clear H
                                        have H := H1
                                        clear H1
                                        have H' := Aside0.mk H
                                        clear H
                                        go_wp2
                                        go_meet
                                        case rel => exact ⟨_, (true), (by first | rfl | (simp; done) | (simp [*]; done)), H', ⟨by have := HJ7.out; have := HK2.out; have := HJ20.out; have := HJ25.out; first | omega | exact Nat.le_refl _⟩, ⟨by (with_reducible repeat (first | apply Kd.R_alloc | apply Kd.R_drewN | apply Kd.R_drew)); exact Kd.R_mono HO_5.out (fun _ hk => hk.1)⟩, ⟨by (with_reducible repeat (first | apply Kd.R_alloc | apply Kd.R_drewN | apply Kd.R_drew)); exact Kd.R_mono HO_7.out (fun _ hk => hk.1)⟩, ⟨by repeat (first | (with_reducible exact HR186.out) | (with_reducible refine Kd.C_alloc ?_ _) | (with_reducible refine Kd.C_drewN ?_ _) | (with_reducible refine Kd.C_drew ?_) | exact HR186.out)⟩, ⟨by repeat (first | (with_reducible first | exact HB.out | apply below_alloc | apply pw_below_drewN | apply below_drew1) | exact HB.out)⟩⟩
                                    case rest =>
                                      clear HC38
                                      try clear c1
                                      try clear p1
                                      try clear q1
                                      try clear hx1
                                      try clear qi1
                                      try clear c2
                                      try clear p2
                                      try clear c3
                                      try clear q3
                                      try clear c4
                                      try clear p6
                                      try clear c12
                                      try clear c13
                                      try clear c13b0
                                      try clear c13b1
                                      try clear c13b2
                                      try clear c15
                                      try clear c15b0
                                      try clear c15b1
                                      try clear c16
                                      try clear c16b0
                                      try clear c16b1
                                      try clear c17
                                      try clear p17
                                      try clear q17
                                      try clear hx17
                                      try clear qi17
                                      try clear c18
                                      try clear p18
                                      try clear q18
                                      try clear hx18
                                      try clear c19
                                      try clear c20
                                      try clear c20b0
                                      try clear c23
                                      try clear c23b0
                                      try clear c25
                                      try clear c25b0
                                      try clear c27
                                      try clear c27b0
                                      try clear c28
                                      try clear c28b0
                                      try clear c29
                                      try clear c29b0
                                      try clear c30
                                      try clear c30b0
                                      try clear c31
                                      try clear c32
                                      try clear c32b0
                                      try clear c33
                                      try clear c33b0
                                      try clear c34
                                      try clear c34b0
                                      try clear c34b1
                                      try clear c35
                                      try clear c35b0
                                      try clear c35b1
                                      try clear c36
                                      try clear c36b0
                                      try clear c36b1
                                      try clear c39
                                      try clear q39
                                      try clear c41
                                      try clear hx178_0
                                      try clear hx179_0
                                      try clear hx180_0
                                      try clear hx181_0
                                      try clear hx182_0
                                      try clear p1
                                      try clear p17
                                      try clear p178
                                      try clear p179
                                      try clear p18
                                      try clear p180
                                      try clear p181
                                      try clear p182
                                      try clear p2
                                      try clear p6
                                      try clear q039
                                      try clear q1
                                      try clear q17
                                      try clear q178
                                      try clear q179
                                      try clear q18
                                      try clear q180
                                      try clear q181
                                      try clear q182
                                      try clear q39
                                      obtain ⟨kq, x106_37, rfl, HA, HJ37, HO_5, HO_7, HR186, HB⟩ := hcut
                                      cases kq with
                                      | zero => exact absurd HA.out (by simp [laws_FnPhased.j4])
                                      | succ kj37 =>
                                        have H := HA.out
                                        clear HA
                                        simp only [laws_FnPhased.j4] at H
                                        by_cases c43 : x106_37 = true
                                        · subst c43
                                          have H1 : (some false) = some r := by rw [if_pos rfl] at H; exact H
                                          clear H
                                          have H := H1
                                          clear H1
                                          obtain rfl := Option.some.inj H
                                          go_wp2
                                          go_ret
                                          exact ⟨by first | rfl | (simp [errW_none, errW_some] <;> rfl) | (simp [*, errW_none, errW_some] <;> rfl), by repeat (first | (with_reducible first | exact HB.out | apply below_alloc | apply pw_below_drewN | apply below_drew1) | exact HB.out)⟩
                                        · replace c43 := Bool.eq_false_iff.mpr c43
                                          subst c43
                                          have H1 : (if x10_20 = (t170.length : Int) then (laws_FnPhased.l0 kj37 t170 (wrap64 (1 + t173)) t174 (wrap64 (x9_2 + 1))) else (if 0 ≤ x9_2 then (if x9_2 < (t174.length : Int) then (if 0 ≤ (rd t174 x9_2) then (if (rd t174 x9_2) ≤ (wrap64 (x10_20 + 1)) then (if (wrap64 (x10_20 + 1)) ≤ (t170.length : Int) then ((impl_AddressesOf.f ((t170.take ((wrap64 (x10_20 + 1)) : Int).toNat).drop ((rd t174 x9_2) : Int).toNat)).bind fun bt196 => (if bt196.2 = true then (if (bt196.1.length : Int) = (wrap64 ((wrap64 (1 + t173)) + 1)) then (laws_FnPhased.l0 kj37 t170 (wrap64 (1 + t173)) t174 (wrap64 (x9_2 + 1))) else (some false)) else (some false))) else (none)) else (none)) else (none)) else (none)) else (none))) = some r := by rw [if_neg (show ¬ (false = true) by decide)] at H; exact H
                                          clear H
                                          have H := H1
                                          clear H1
                                          by_cases c44 : x10_20 = (t170.length : Int)
                                          · rw [if_pos c44] at H
                                            have c44b0 : (x10_20 == (t170.length : Int)) = true := beq_iff_eq.mpr c44
                                            have c44b1 : (x10_20 != (t170.length : Int)) = false := bne_eq_false_iff_eq.mpr c44
                                            clear c44
                                            have H' := Aside0.mk H
                                            clear H
                                            go_wp2
                                            go_roundg kj37
                                            case measure => have := HJ7.out; have := HK2.out; have := HJ20.out; have := HJ25.out; have := HJ37.out; omega
                                            case rel => exact ⟨(wrap64 (x9_2 + 1)), (by first | rfl | (simp; done) | (simp [*]; done)), H', ⟨by have := HJ7.out; have := HK2.out; have := HJ20.out; have := HJ25.out; have := HJ37.out; omega⟩, ⟨by (with_reducible repeat (first | apply Kd.R_alloc | apply Kd.R_drewN | apply Kd.R_drew)); exact HO_5.out⟩, ⟨by (with_reducible repeat (first | apply Kd.R_alloc | apply Kd.R_drewN | apply Kd.R_drew)); exact HO_7.out⟩, ⟨by repeat (first | (with_reducible first | exact HB.out | apply below_alloc | apply pw_below_drewN | apply below_drew1) | exact HB.out)⟩⟩
                                          · rw [if_neg c44] at H
                                            have c44b0 : (x10_20 == (t170.length : Int)) = false := beq_eq_false_iff_ne.mpr c44
                                            have c44b1 : (x10_20 != (t170.length : Int)) = true := bne_iff_ne.mpr c44
                                            by_cases c45 : 0 ≤ x9_2
                                            · rw [if_pos c45] at H
                                              have c45b0 : decide (0 ≤ x9_2) = true := decide_eq_true c45
                                              clear c45
                                              by_cases c46 : x9_2 < (t174.length : Int)
                                              · rw [if_pos c46] at H
                                                have c46b0 : decide (x9_2 < (t174.length : Int)) = true := decide_eq_true c46
                                                clear c46
                                                by_cases c47 : 0 ≤ (rd t174 x9_2)
                                                · rw [if_pos c47] at H
                                                  have c47b0 := eq_true c47
                                                  have c47b1 : decide (0 ≤ (rd t174 x9_2)) = true := decide_eq_true c47
                                                  clear c47
                                                  by_cases c48 : (rd t174 x9_2) ≤ (wrap64 (x10_20 + 1))
                                                  · rw [if_pos c48] at H
                                                    have c48b0 := eq_true c48
                                                    have c48b1 : decide ((rd t174 x9_2) ≤ (wrap64 (x10_20 + 1))) = true := decide_eq_true c48
                                                    by_cases c49 : (wrap64 (x10_20 + 1)) ≤ (t170.length : Int)
                                                    · rw [if_pos c49] at H
                                                      have c49b0 := eq_true c49
                                                      have c49b1 : decide ((wrap64 (x10_20 + 1)) ≤ (t170.length : Int)) = true := decide_eq_true c49
                                                      obtain ⟨y192, hy192⟩ : ∃ y_ : List Int, y_ = ((t170.take ((wrap64 (x10_20 + 1)) : Int).toNat).drop ((rd t174 x9_2) : Int).toNat) := ⟨_, rfl⟩
                                                      replace H : ((impl_AddressesOf.f y192).bind fun bt196 => (if bt196.2 = true then (if (bt196.1.length : Int) = (wrap64 ((wrap64 (1 + t173)) + 1)) then (laws_FnPhased.l0 kj37 t170 (wrap64 (1 + t173)) t174 (wrap64 (x9_2 + 1))) else (some false)) else (some false))) = some r := by first | (rw [hy192]; with_reducible exact H) | (have H2_ := (Option.bind_some _ _).symm.trans H; rw [hy192]; with_reducible exact H2_) | (have H2_ := (Option.bind_some _ _).symm.trans H; with_reducible exact H2_) | with_reducible exact H | (rw [hy192]; exact H) | exact H
                                                      have Ny192 := Aside0.mk hy192
                                                      clear hy192
                                                      replace H := Option.bind_eq_some_iff.mp H
                                                      obtain ⟨⟨t196, t197⟩, A500, H⟩ := H
                                                      replace H : (if t197 = true then (if (t196.length : Int) = (wrap64 ((wrap64 (1 + t173)) + 1)) then (laws_FnPhased.l0 kj37 t170 (wrap64 (1 + t173)) t174 (wrap64 (x9_2 + 1))) else (some false)) else (some false)) = some r := H
                                                      have A50 := Aside0.mk A500
                                                      clear A500
                                                      by_cases c51 : t197 = true
                                                      · subst c51
                                                        have H1 : (if (t196.length : Int) = (wrap64 ((wrap64 (1 + t173)) + 1)) then (laws_FnPhased.l0 kj37 t170 (wrap64 (1 + t173)) t174 (wrap64 (x9_2 + 1))) else (some false)) = some r := by rw [if_pos rfl] at H; exact H
                                                        clear H
                                                        have H := H1
                                                        clear H1
                                                        by_cases c52 : (t196.length : Int) = (wrap64 ((wrap64 (1 + t173)) + 1))
                                                        · rw [if_pos c52] at H
                                                          have c52b0 : ((t196.length : Int) == (wrap64 ((wrap64 (1 + t173)) + 1))) = true := beq_iff_eq.mpr c52
                                                          have c52b1 : ((t196.length : Int) != (wrap64 ((wrap64 (1 + t173)) + 1))) = false := bne_eq_false_iff_eq.mpr c52
                                                          clear c52
                                                          have H' := Aside0.mk H
                                                          clear H
                                                          have p191 : 0 ≤ (x9_2 : Int) := of_decide_eq_true (by first | (with_reducible assumption) | assumption)
                                                          have q191 : x9_2 < (t174.length : Int) := of_decide_eq_true (by first | (with_reducible assumption) | assumption)
                                                          obtain ⟨ad191, e191, hx191_0⟩ := Kd.at_int (Kd.R_reads' HO_7.out).2.2 x9_2 p191 q191
                                                          obtain rfl : ad182 = ad191 := (by injection e191)
                                                          replace p191 := eq_true p191
                                                          replace q191 := eq_true q191
                                                          have q53 : ((wrap64 (x10_20 + 1)) : Int) ≤ ((t170.length : Int) : Int) := of_decide_eq_true (by first | (with_reducible assumption) | assumption)
                                                          obtain ⟨i053, hi053, _, hsz53, _⟩ := info_parts info2
                                                          have hroom53 : t170.length ≤ co10 := (Kd.R_reads' HO_5.out).2.1
                                                          have hC53 : Kd.C (Kd.int .i64) _ Ao10 t170.length t170 := (Kd.R_reads' HO_5.out).2.2
                                                          have ql53 : ((rd t174 x9_2) : Int) ≤ ((wrap64 (x10_20 + 1)) : Int) := of_decide_eq_true (by first | (with_reducible assumption) | assumption)
                                                          have q053 : (0 : Int) ≤ ((rd t174 x9_2) : Int) := of_decide_eq_true (by first | (with_reducible assumption) | assumption)
                                                          have hcut53 := cut_mid (P := Try.prog) 24 2 .i64 .i64 Try.underlying24 hi053 1 hsz53 Ao10 t170.length co10 (rd t174 x9_2) (wrap64 (x10_20 + 1)) q053 ql53 q53 hroom53
                                                          have hr53 := Kd.C_mid (lo := ((rd t174 x9_2) : Int).toNat) (hi := ((wrap64 (x10_20 + 1)) : Int).toNat) (c := co10) hC53 (by omega) (by omega) hroom53
                                                          obtain ⟨A53, hA53⟩ : ∃ A1, A1 = (if co10 = ((rd t174 x9_2) : Int).toNat then Ao10 else (Ao10 : Option Addr).map (·.add (((rd t174 x9_2) : Int).toNat * 1))) := ⟨_, rfl⟩
                                                          obtain ⟨c53, hc53⟩ : ∃ c1, c1 = co10 - ((rd t174 x9_2) : Int).toNat := ⟨_, rfl⟩
                                                          have hy53 : y192.length = ((wrap64 (x10_20 + 1)) : Int).toNat - ((rd t174 x9_2) : Int).toNat := (by rw [Ny192.out, List.length_drop, List.length_take] <;> omega)
                                                          rw [show ((t170).take ((wrap64 (x10_20 + 1)) : Int).toNat).drop ((rd t174 x9_2) : Int).toNat = y192 from Ny192.out.symm] at hr53
                                                          replace hr53 : Kd.C (Kd.int .i64) _ A53 y192.length y192 := (by rw [hA53]; exact hr53)
                                                          rw [← hy53, ← hA53, ← hc53] at hcut53
                                                          have HR195 := Aside0.mk hr53
                                                          have HC195 := Aside0.mk (show y192.length ≤ c53 from by rw [hy53, hc53]; exact Nat.sub_le_sub_right (Nat.le_trans (by omega) hroom53) _)
                                                          clear hr53 hC53 hroom53 hi053 hsz53 hc53
                                                          have KY53 := Aside0.mk hy53
                                                          have KA53 := Aside0.mk hA53
                                                          clear hy53 hA53
                                                          have KL53 := Aside0.mk (show ((wrap64 (x10_20 + 1)) : Int).toNat ≤ t170.length from by omega)
                                                          have KM53 := Aside0.mk (show ((rd t174 x9_2) : Int).toNat ≤ ((wrap64 (x10_20 + 1)) : Int).toNat from by omega)
                                                          replace q53 := eq_true q53
                                                          go_wp2_with (first | ((with_reducible refine gate_callee (f := 19) rfl ?_); refine goesL_ (some 120) rfl rfl Try.func19 (by kernel_rfl) rfl #[.slice A53 y192.length c53] rfl (by (try simp only [List.map_toArray, List.map_cons, List.map_nil]); first | done | rfl | (simp only [List.length_drop, List.length_take]; rfl)) ?_; (with_reducible refine (impl_AddressesOf.calls _ _ y192 t196 true _ ?side1 ?side2 A50.out).mono ?_); (case side1 => repeat (first | exact (by repeat (first | (with_reducible exact HR195.out) | (with_reducible refine Kd.C_alloc ?_ _) | (with_reducible refine Kd.C_drewN ?_ _) | (with_reducible refine Kd.C_drew ?_) | exact HR195.out)) | (with_reducible refine Kd.C_alloc ?_ _) | (with_reducible refine Kd.C_drewN ?_ _) | (with_reducible refine Kd.C_drew ?_))); (case side2 => exact HC195.out); rintro e w54 ⟨v198, rfl, ho0, hb⟩; refine ⟨_, rfl, ?_⟩; have n0_ := Aside0.mk (Kd.R_elder' (by (with_reducible repeat (first | apply Kd.R_alloc | apply Kd.R_drewN | apply Kd.R_drew)); exact HO_5.out) (Kd.R_base ho0) hb); have n1_ := Aside0.mk (Kd.R_elder' (by (with_reducible repeat (first | apply Kd.R_alloc | apply Kd.R_drewN | apply Kd.R_drew)); exact HO_7.out) (Kd.R_base ho0) hb); have n2_ := Aside0.mk (Kd.R_lower (Kd.R_new' (Kd.R_new' ho0 (Kd.R_lt (by (with_reducible repeat (first | apply Kd.R_alloc | apply Kd.R_drewN | apply Kd.R_drew)); exact HO_5.out))) (Kd.R_lt (by (with_reducible repeat (first | apply Kd.R_alloc | apply Kd.R_drewN | apply Kd.R_drew)); exact HO_7.out))) (below_size (by repeat (first | (with_reducible first | exact HB.out | apply below_alloc | apply pw_below_drewN | apply below_drew1) | exact HB.out)))); have n3_ := Aside0.mk (Kd.C_below (by repeat (first | (with_reducible exact HR186.out) | (with_reducible refine Kd.C_alloc ?_ _) | (with_reducible refine Kd.C_drewN ?_ _) | (with_reducible refine Kd.C_drew ?_) | exact HR186.out)) hb); have n4_ := Aside0.mk (Kd.C_below (by repeat (first | (with_reducible exact HR195.out) | (with_reducible refine Kd.C_alloc ?_ _) | (with_reducible refine Kd.C_drewN ?_ _) | (with_reducible refine Kd.C_drew ?_) | exact HR195.out)) hb); have n5_ := Aside0.mk (below_step (by repeat (first | (with_reducible first | exact HB.out | apply below_alloc | apply pw_below_drewN | apply below_drew1) | exact HB.out)) hb); clear HO_5; clear HO_7; clear HR186; clear HR195; clear HB; have HO_5 := n0_; have HO_7 := n1_; have HO199 := n2_; have HR186 := n3_; have HR195 := n4_; have HB := n5_; clear n0_ n1_ n2_ n3_ n4_ n5_; (try clear hb); (try clear hb2); (try clear hk); (try clear hi); (try clear ho0); obtain ⟨Ao55, co55, eo55⟩ := Kd.R_slice HO199.out; subst eo55))
                                                          go_roundg kj37
                                                          case measure => have := HJ7.out; have := HK2.out; have := HJ20.out; have := HJ25.out; have := HJ37.out; omega
                                                          case rel => exact ⟨(wrap64 (x9_2 + 1)), (by first | rfl | (simp; done) | (simp [*]; done)), H', ⟨by have := HJ7.out; have := HK2.out; have := HJ20.out; have := HJ25.out; have := HJ37.out; omega⟩, ⟨by (with_reducible repeat (first | apply Kd.R_alloc | apply Kd.R_drewN | apply Kd.R_drew)); exact Kd.R_mono HO_5.out (fun _ hk => hk.1)⟩, ⟨by (with_reducible repeat (first | apply Kd.R_alloc | apply Kd.R_drewN | apply Kd.R_drew)); exact Kd.R_mono HO_7.out (fun _ hk => hk.1)⟩, ⟨by repeat (first | (with_reducible first | exact HB.out | apply below_alloc | apply pw_below_drewN | apply below_drew1) | exact HB.out)⟩⟩
                                                        · rw [if_neg c52] at H
                                                          have c52b0 : ((t196.length : Int) == (wrap64 ((wrap64 (1 + t173)) + 1))) = false := beq_eq_false_iff_ne.mpr c52
                                                          have c52b1 : ((t196.length : Int) != (wrap64 ((wrap64 (1 + t173)) + 1))) = true := bne_iff_ne.mpr c52
                                                          obtain rfl := Option.some.inj H
                                                          have p191 : 0 ≤ (x9_2 : Int) := of_decide_eq_true (by first | (with_reducible assumption) | assumption)
                                                          have q191 : x9_2 < (t174.length : Int) := of_decide_eq_true (by first | (with_reducible assumption) | assumption)
                                                          obtain ⟨ad191, e191, hx191_0⟩ := Kd.at_int (Kd.R_reads' HO_7.out).2.2 x9_2 p191 q191
                                                          obtain rfl : ad182 = ad191 := (by injection e191)
                                                          replace p191 := eq_true p191
                                                          replace q191 := eq_true q191
                                                          have q56 : ((wrap64 (x10_20 + 1)) : Int) ≤ ((t170.length : Int) : Int) := of_decide_eq_true (by first | (with_reducible assumption) | assumption)
                                                          obtain ⟨i056, hi056, _, hsz56, _⟩ := info_parts info2
                                                          have hroom56 : t170.length ≤ co10 := (Kd.R_reads' HO_5.out).2.1
                                                          have hC56 : Kd.C (Kd.int .i64) _ Ao10 t170.length t170 := (Kd.R_reads' HO_5.out).2.2
                                                          have ql56 : ((rd t174 x9_2) : Int) ≤ ((wrap64 (x10_20 + 1)) : Int) := of_decide_eq_true (by first | (with_reducible assumption) | assumption)
                                                          have q056 : (0 : Int) ≤ ((rd t174 x9_2) : Int) := of_decide_eq_true (by first | (with_reducible assumption) | assumption)
                                                          have hcut56 := cut_mid (P := Try.prog) 24 2 .i64 .i64 Try.underlying24 hi056 1 hsz56 Ao10 t170.length co10 (rd t174 x9_2) (wrap64 (x10_20 + 1)) q056 ql56 q56 hroom56
                                                          have hr56 := Kd.C_mid (lo := ((rd t174 x9_2) : Int).toNat) (hi := ((wrap64 (x10_20 + 1)) : Int).toNat) (c := co10) hC56 (by omega) (by omega) hroom56
                                                          obtain ⟨A56, hA56⟩ : ∃ A1, A1 = (if co10 = ((rd t174 x9_2) : Int).toNat then Ao10 else (Ao10 : Option Addr).map (·.add (((rd t174 x9_2) : Int).toNat * 1))) := ⟨_, rfl⟩
                                                          obtain ⟨c56, hc56⟩ : ∃ c1, c1 = co10 - ((rd t174 x9_2) : Int).toNat := ⟨_, rfl⟩
                                                          have hy56 : y192.length = ((wrap64 (x10_20 + 1)) : Int).toNat - ((rd t174 x9_2) : Int).toNat := (by rw [Ny192.out, List.length_drop, List.length_take] <;> omega)
                                                          rw [show ((t170).take ((wrap64 (x10_20 + 1)) : Int).toNat).drop ((rd t174 x9_2) : Int).toNat = y192 from Ny192.out.symm] at hr56
                                                          replace hr56 : Kd.C (Kd.int .i64) _ A56 y192.length y192 := (by rw [hA56]; exact hr56)
                                                          rw [← hy56, ← hA56, ← hc56] at hcut56
                                                          have HR195 := Aside0.mk hr56
                                                          have HC195 := Aside0.mk (show y192.length ≤ c56 from by rw [hy56, hc56]; exact Nat.sub_le_sub_right (Nat.le_trans (by omega) hroom56) _)
                                                          clear hr56 hC56 hroom56 hi056 hsz56 hc56
                                                          have KY56 := Aside0.mk hy56
                                                          have KA56 := Aside0.mk hA56
                                                          clear hy56 hA56
                                                          have KL56 := Aside0.mk (show ((wrap64 (x10_20 + 1)) : Int).toNat ≤ t170.length from by omega)
                                                          have KM56 := Aside0.mk (show ((rd t174 x9_2) : Int).toNat ≤ ((wrap64 (x10_20 + 1)) : Int).toNat from by omega)
                                                          replace q56 := eq_true q56
                                                          go_wp2_with (first | ((with_reducible refine gate_callee (f := 19) rfl ?_); refine goesL_ (some 120) rfl rfl Try.func19 (by kernel_rfl) rfl #[.slice A56 y192.length c56] rfl (by (try simp only [List.map_toArray, List.map_cons, List.map_nil]); first | done | rfl | (simp only [List.length_drop, List.length_take]; rfl)) ?_; (with_reducible refine (impl_AddressesOf.calls _ _ y192 t196 true _ ?side1 ?side2 A50.out).mono ?_); (case side1 => repeat (first | exact (by repeat (first | (with_reducible exact HR195.out) | (with_reducible refine Kd.C_alloc ?_ _) | (with_reducible refine Kd.C_drewN ?_ _) | (with_reducible refine Kd.C_drew ?_) | exact HR195.out)) | (with_reducible refine Kd.C_alloc ?_ _) | (with_reducible refine Kd.C_drewN ?_ _) | (with_reducible refine Kd.C_drew ?_))); (case side2 => exact HC195.out); rintro e w57 ⟨v198, rfl, ho0, hb⟩; refine ⟨_, rfl, ?_⟩; have n0_ := Aside0.mk (Kd.R_elder' (by (with_reducible repeat (first | apply Kd.R_alloc | apply Kd.R_drewN | apply Kd.R_drew)); exact HO_5.out) (Kd.R_base ho0) hb); have n1_ := Aside0.mk (Kd.R_elder' (by (with_reducible repeat (first | apply Kd.R_alloc | apply Kd.R_drewN | apply Kd.R_drew)); exact HO_7.out) (Kd.R_base ho0) hb); have n2_ := Aside0.mk (Kd.R_lower (Kd.R_new' (Kd.R_new' ho0 (Kd.R_lt (by (with_reducible repeat (first | apply Kd.R_alloc | apply Kd.R_drewN | apply Kd.R_drew)); exact HO_5.out))) (Kd.R_lt (by (with_reducible repeat (first | apply Kd.R_alloc | apply Kd.R_drewN | apply Kd.R_drew)); exact HO_7.out))) (below_size (by repeat (first | (with_reducible first | exact HB.out | apply below_alloc | apply pw_below_drewN | apply below_drew1) | exact HB.out)))); have n3_ := Aside0.mk (Kd.C_below (by repeat (first | (with_reducible exact HR186.out) | (with_reducible refine Kd.C_alloc ?_ _) | (with_reducible refine Kd.C_drewN ?_ _) | (with_reducible refine Kd.C_drew ?_) | exact HR186.out)) hb); have n4_ := Aside0.mk (Kd.C_below (by repeat (first | (with_reducible exact HR195.out) | (with_reducible refine Kd.C_alloc ?_ _) | (with_reducible refine Kd.C_drewN ?_ _) | (with_reducible refine Kd.C_drew ?_) | exact HR195.out)) hb); have n5_ := Aside0.mk (below_step (by repeat (first | (with_reducible first | exact HB.out | apply below_alloc | apply pw_below_drewN | apply below_drew1) | exact HB.out)) hb); clear HO_5; clear HO_7; clear HR186; clear HR195; clear HB; have HO_5 := n0_; have HO_7 := n1_; have HO199 := n2_; have HR186 := n3_; have HR195 := n4_; have HB := n5_; clear n0_ n1_ n2_ n3_ n4_ n5_; (try clear hb); (try clear hb2); (try clear hk); (try clear hi); (try clear ho0); obtain ⟨Ao58, co58, eo58⟩ := Kd.R_slice HO199.out; subst eo58))
                                                          go_ret
                                                          exact ⟨by first | rfl | (simp [errW_none, errW_some] <;> rfl) | (simp [*, errW_none, errW_some] <;> rfl), by repeat (first | (with_reducible first | exact HB.out | apply below_alloc | apply pw_below_drewN | apply below_drew1) | exact HB.out)⟩
                                                      · replace c51 := Bool.eq_false_iff.mpr c51
                                                        subst c51
                                                        have H1 : (some false) = some r := by rw [if_neg (show ¬ (false = true) by decide)] at H; exact H
                                                        clear H
                                                        have H := H1
                                                        clear H1
                                                        obtain rfl := Option.some.inj H
                                                        have p191 : 0 ≤ (x9_2 : Int) := of_decide_eq_true (by first | (with_reducible assumption) | assumption)
                                                        have q191 : x9_2 < (t174.length : Int) := of_decide_eq_true (by first | (with_reducible assumption) | assumption)
                                                        obtain ⟨ad191, e191, hx191_0⟩ := Kd.at_int (Kd.R_reads' HO_7.out).2.2 x9_2 p191 q191
                                                        obtain rfl : ad182 = ad191 := (by injection e191)
                                                        replace p191 := eq_true p191
                                                        replace q191 := eq_true q191
                                                        have q59 : ((wrap64 (x10_20 + 1)) : Int) ≤ ((t170.length : Int) : Int) := of_decide_eq_true (by first | (with_reducible assumption) | assumption)
                                                        obtain ⟨i059, hi059, _, hsz59, _⟩ := info_parts info2
                                                        have hroom59 : t170.length ≤ co10 := (Kd.R_reads' HO_5.out).2.1
                                                        have hC59 : Kd.C (Kd.int .i64) _ Ao10 t170.length t170 := (Kd.R_reads' HO_5.out).2.2
                                                        have ql59 : ((rd t174 x9_2) : Int) ≤ ((wrap64 (x10_20 + 1)) : Int) := of_decide_eq_true (by first | (with_reducible assumption) | assumption)
                                                        have q059 : (0 : Int) ≤ ((rd t174 x9_2) : Int) := of_decide_eq_true (by first | (with_reducible assumption) | assumption)
                                                        have hcut59 := cut_mid (P := Try.prog) 24 2 .i64 .i64 Try.underlying24 hi059 1 hsz59 Ao10 t170.length co10 (rd t174 x9_2) (wrap64 (x10_20 + 1)) q059 ql59 q59 hroom59
                                                        have hr59 := Kd.C_mid (lo := ((rd t174 x9_2) : Int).toNat) (hi := ((wrap64 (x10_20 + 1)) : Int).toNat) (c := co10) hC59 (by omega) (by omega) hroom59
                                                        obtain ⟨A59, hA59⟩ : ∃ A1, A1 = (if co10 = ((rd t174 x9_2) : Int).toNat then Ao10 else (Ao10 : Option Addr).map (·.add (((rd t174 x9_2) : Int).toNat * 1))) := ⟨_, rfl⟩
                                                        obtain ⟨c59, hc59⟩ : ∃ c1, c1 = co10 - ((rd t174 x9_2) : Int).toNat := ⟨_, rfl⟩
                                                        have hy59 : y192.length = ((wrap64 (x10_20 + 1)) : Int).toNat - ((rd t174 x9_2) : Int).toNat := (by rw [Ny192.out, List.length_drop, List.length_take] <;> omega)
                                                        rw [show ((t170).take ((wrap64 (x10_20 + 1)) : Int).toNat).drop ((rd t174 x9_2) : Int).toNat = y192 from Ny192.out.symm] at hr59
                                                        replace hr59 : Kd.C (Kd.int .i64) _ A59 y192.length y192 := (by rw [hA59]; exact hr59)
                                                        rw [← hy59, ← hA59, ← hc59] at hcut59
                                                        have HR195 := Aside0.mk hr59
                                                        have HC195 := Aside0.mk (show y192.length ≤ c59 from by rw [hy59, hc59]; exact Nat.sub_le_sub_right (Nat.le_trans (by omega) hroom59) _)
                                                        clear hr59 hC59 hroom59 hi059 hsz59 hc59
                                                        have KY59 := Aside0.mk hy59
                                                        have KA59 := Aside0.mk hA59
                                                        clear hy59 hA59
                                                        have KL59 := Aside0.mk (show ((wrap64 (x10_20 + 1)) : Int).toNat ≤ t170.length from by omega)
                                                        have KM59 := Aside0.mk (show ((rd t174 x9_2) : Int).toNat ≤ ((wrap64 (x10_20 + 1)) : Int).toNat from by omega)
                                                        replace q59 := eq_true q59
                                                        go_wp2_with (first | ((with_reducible refine gate_callee (f := 19) rfl ?_); refine goesL_ (some 120) rfl rfl Try.func19 (by kernel_rfl) rfl #[.slice A59 y192.length c59] rfl (by (try simp only [List.map_toArray, List.map_cons, List.map_nil]); first | done | rfl | (simp only [List.length_drop, List.length_take]; rfl)) ?_; (with_reducible refine (impl_AddressesOf.calls _ _ y192 t196 false _ ?side1 ?side2 A50.out).mono ?_); (case side1 => repeat (first | exact (by repeat (first | (with_reducible exact HR195.out) | (with_reducible refine Kd.C_alloc ?_ _) | (with_reducible refine Kd.C_drewN ?_ _) | (with_reducible refine Kd.C_drew ?_) | exact HR195.out)) | (with_reducible refine Kd.C_alloc ?_ _) | (with_reducible refine Kd.C_drewN ?_ _) | (with_reducible refine Kd.C_drew ?_))); (case side2 => exact HC195.out); rintro e w60 ⟨v198, rfl, ho0, hb⟩; refine ⟨_, rfl, ?_⟩; have n0_ := Aside0.mk (Kd.R_elder' (by (with_reducible repeat (first | apply Kd.R_alloc | apply Kd.R_drewN | apply Kd.R_drew)); exact HO_5.out) (Kd.R_base ho0) hb); have n1_ := Aside0.mk (Kd.R_elder' (by (with_reducible repeat (first | apply Kd.R_alloc | apply Kd.R_drewN | apply Kd.R_drew)); exact HO_7.out) (Kd.R_base ho0) hb); have n2_ := Aside0.mk (Kd.R_lower (Kd.R_new' (Kd.R_new' ho0 (Kd.R_lt (by (with_reducible repeat (first | apply Kd.R_alloc | apply Kd.R_drewN | apply Kd.R_drew)); exact HO_5.out))) (Kd.R_lt (by (with_reducible repeat (first | apply Kd.R_alloc | apply Kd.R_drewN | apply Kd.R_drew)); exact HO_7.out))) (below_size (by repeat (first | (with_reducible first | exact HB.out | apply below_alloc | apply pw_below_drewN | apply below_drew1) | exact HB.out)))); have n3_ := Aside0.mk (Kd.C_below (by repeat (first | (with_reducible exact HR186.out) | (with_reducible refine Kd.C_alloc ?_ _) | (with_reducible refine Kd.C_drewN ?_ _) | (with_reducible refine Kd.C_drew ?_) | exact HR186.out)) hb); have n4_ := Aside0.mk (Kd.C_below (by repeat (first | (with_reducible exact HR195.out) | (with_reducible refine Kd.C_alloc ?_ _) | (with_reducible refine Kd.C_drewN ?_ _) | (with_reducible refine Kd.C_drew ?_) | exact HR195.out)) hb); have n5_ := Aside0.mk (below_step (by repeat (first | (with_reducible first | exact HB.out | apply below_alloc | apply pw_below_drewN | apply below_drew1) | exact HB.out)) hb); clear HO_5; clear HO_7; clear HR186; clear HR195; clear HB; have HO_5 := n0_; have HO_7 := n1_; have HO199 := n2_; have HR186 := n3_; have HR195 := n4_; have HB := n5_; clear n0_ n1_ n2_ n3_ n4_ n5_; (try clear hb); (try clear hb2); (try clear hk); (try clear hi); (try clear ho0)))
                                                        go_ret
                                                        exact ⟨by first | rfl | (simp [errW_none, errW_some] <;> rfl) | (simp [*, errW_none, errW_some] <;> rfl), by repeat (first | (with_reducible first | exact HB.out | apply below_alloc | apply pw_below_drewN | apply below_drew1) | exact HB.out)⟩
                                                    · rw [if_neg c49] at H
                                                      exact absurd H (by simp)
                                                  · rw [if_neg c48] at H
                                                    exact absurd H (by simp)
                                                · rw [if_neg c47] at H
                                                  exact absurd H (by simp)
                                              · rw [if_neg c46] at H
                                                exact absurd H (by simp)
                                            · rw [if_neg c45] at H
                                              exact absurd H (by simp)
                                  · rw [if_neg c36] at H
                                    exact absurd H (by simp)
                                · rw [if_neg c35] at H
                                  exact absurd H (by simp)
                              · rw [if_neg c34] at H
                                exact absurd H (by simp)
                            · rw [if_neg c33] at H
                              exact absurd H (by simp)
                          · rw [if_neg c32] at H
                            exact absurd H (by simp)
              · rw [if_neg c20] at H
                have c20b0 : decide (x9_2 < (t174.length : Int)) = false := decide_eq_false c20
                clear c20
                obtain rfl := Option.some.inj H
                obtain ⟨Ao61, co61, eo61⟩ := Kd.R_slice HO_7.out
                subst eo61
                go_wp2
                go_ret
                exact ⟨by first | rfl | (simp [errW_none, errW_some] <;> rfl) | (simp [*, errW_none, errW_some] <;> rfl), by repeat (first | (with_reducible first | exact HB.out | apply below_alloc | apply pw_below_drewN | apply below_drew1) | exact HB.out)⟩

/-- THE ONE PURE STATEMENT of laws_FnPhased: yours. -/
def laws_FnPhased.Pure : Prop := ∀ (l0 : List Int) (l1 : List Int), l0.length ≤ maxLen → l0.length * 1 ≤ 140737488351232 → (∀ x ∈ l0, (Lit.int .u8 x).wf = true) → l1.length ≤ maxLen → l1.length * 1 ≤ 140737488351232 → (∀ x ∈ l1, (Lit.int .u8 x).wf = true) → ∃ k, laws_FnPhased.f k l0 l1 = some true
theorem laws_FnPhased.walk (P : laws_FnPhased.Pure) (a0 : Option Addr) (len0 cap0 : Nat) (z0 : List Int) (a1 : Option Addr) (len1 cap1 : Nat) (z1 : List Int) (w : World) (w0 : (a0 = none ∧ len0 = 0 ∧ cap0 = 0 ∧ z0 = []) ∨ ∃ x, a0 = some x ∧ len0 ≤ cap0 ∧ cap0 ≤ maxLen ∧ z0.length = cap0 ∧ (∀ i, i < z0.length → w.cell? (x.add i) = some (.int .u8 (z0.getD i 0))) ∧ ∀ n ∈ z0, (Lit.int .u8 n).wf = true) (y0 : len0 * 1 ≤ 140737488351232) (w1 : (a1 = none ∧ len1 = 0 ∧ cap1 = 0 ∧ z1 = []) ∨ ∃ x, a1 = some x ∧ len1 ≤ cap1 ∧ cap1 ≤ maxLen ∧ z1.length = cap1 ∧ (∀ i, i < z1.length → w.cell? (x.add i) = some (.int .u8 (z1.getD i 0))) ∧ ∀ n ∈ z1, (Lit.int .u8 n).wf = true) (y1 : len1 * 1 ≤ 140737488351232) :
    Calls Try.prog 3 #[.slice a0 len0 cap0, .slice a1 len1 cap1] w fun e w' => e = .returned (.bool true) ∧ Below w.heap.size w w' := by
  obtain ⟨l0, rfl, hr0, hm0, hw0, hc0⟩ := ReadsInt.ofRowC w0
  obtain ⟨l1, rfl, hr1, hm1, hw1, hc1⟩ := ReadsInt.ofRowC w1
  obtain ⟨k, h⟩ := P l0 l1 hm0 y0 hw0 hm1 y1 hw1
  refine (laws_FnPhased.calls k _ _ l0 _ _ l1 true w (Kd.C_of_reads (d := (0 : Int)) (h1 := fun _ => rfl) hr0) hc0 (Kd.C_of_reads (d := (0 : Int)) (h1 := fun _ => rfl) hr1) hc1 h).mono ?_
  rintro e w' ⟨rfl, hd⟩
  exact ⟨rfl, hd⟩

end Go.Proofs.Yteoacngaicchiaa.PFnPhased
