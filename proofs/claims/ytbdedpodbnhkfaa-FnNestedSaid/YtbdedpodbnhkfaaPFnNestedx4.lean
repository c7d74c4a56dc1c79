-- WRITTEN BY wip/xprint.py out of the translation, with contracts of mine put in: Lean checks it.
import Derived.Test.YtbdedpodbnhkfaaPFnNestedx0
import Derived.Test.YtbdedpodbnhkfaaPFnNestedx1
import Derived.Test.YtbdedpodbnhkfaaPFnNestedx3
namespace Go.Proofs.Ytbdedpodbnhkfaa.PFnNested
open Go.RowKit Go.Proofs.YtbdedpodbnhkfaaW.PrintWords Go.Proofs.YtbdedpodbnhkfaaW.PrintLast Go.Proofs.YtbdedpodbnhkfaaW.PrintMore
attribute [local go_sem] max2_int min2_int max_two min_two max_three min_three max_four min_four   -- for this text's walks alone
set_option linter.unusedVariables false
set_option linter.unusedSimpArgs false

/-! ### laws_FnNested: function 3 -/
mutual
def laws_FnNested.l0 : Nat → List (S32) → Bool → Int → Int → Int → Int → List Int → List Int → Option (Bool)
  | 0, _, _, _, _, _, _, _, _ => none
  | k + 1, x6, x7, x8, x9, x178000, x178001, x178002, x178003 => if x9 < (x178002.length : Int) then (if 0 ≤ x9 then (laws_FnNested.l0 k x6 x7 (wrap64 (x8 * (rd x178002 x9))) (wrap64 (x9 + 1)) x178000 x178001 x178002 x178003) else (none)) else (if x7 = true then (if (x6.length : Int) = x8 then (if 0 < (x6.length : Int) then (laws_FnNested.j1 k x6 (((rd_T32 x6 0).f1) != x178001) x178000 x178001 x178002 x178003) else (none)) else (laws_FnNested.j1 k x6 true x178000 x178001 x178002 x178003)) else (laws_FnNested.j1 k x6 true x178000 x178001 x178002 x178003))
def laws_FnNested.j1 : Nat → List (S32) → Bool → Int → Int → List Int → List Int → Option (Bool)
  | 0, _, _, _, _, _, _ => none
  | k + 1, x6, x54, x178000, x178001, x178002, x178003 => if x54 = true then (some false) else (if 0 ≤ (x178002.length : Int) then (if ((x178002.length : Int) : Int).toNat ≤ 35184372088832 then (laws_FnNested.l1 k x6 (List.replicate ((x178002.length : Int) : Int).toNat 0) 1 x178000 x178001 x178002 x178003) else (none)) else (none))
def laws_FnNested.l1 : Nat → List (S32) → List Int → Int → Int → Int → List Int → List Int → Option (Bool)
  | 0, _, _, _, _, _, _, _ => none
  | k + 1, x6, x10, x11, x178000, x178001, x178002, x178003 => if x11 < (x6.length : Int) then (laws_FnNested.l2 k x6 x10 x11 (wrap64 ((x10.length : Int) - 1)) 0 x178000 x178001 x178002 x178003) else (if 0 < (x6.length : Int) then (some (((rd_T32 x6 0).f0) == x178000)) else (none))
def laws_FnNested.j4 : Nat → List (S32) → List Int → Int → Int → Int → Int → Int → List Int → List Int → Option (Bool)
  | 0, _, _, _, _, _, _, _, _, _ => none
  | k + 1, x6, x10, x11, x12, x13, x178000, x178001, x178002, x178003 => if x12 < 0 then (some false) else (if 0 ≤ x12 then (if x12 < (x10.length : Int) then (if x12 < (x178003.length : Int) then (if 0 ≤ x11 then (if x11 < (x6.length : Int) then (if ((rd_T32 x6 x11).f0) = x178000 then (if 0 ≤ (wrap64 (x11 - 1)) then (if (wrap64 (x11 - 1)) < (x6.length : Int) then (if (Int.tmod (wrap64 ((wrap64 (((rd_T32 x6 x11).f1) - ((rd_T32 x6 (wrap64 (x11 - 1))).f1))) - (wrap64 (x13 + (rd x178003 x12))))) 64) = 0 then (if ((rd_T32 x6 x11).f1) < 0 then (some false) else (if ((rd_T32 x6 x11).f1) ≥ 64 then (some false) else (laws_FnNested.l1 k x6 (x10.set (x12 : Int).toNat (wrap64 ((rd x10 x12) + 1))) (wrap64 (x11 + 1)) x178000 x178001 x178002 x178003))) else (some false)) else (none)) else (none)) else (some false)) else (none)) else (none)) else (none)) else (none)) else (none))
def laws_FnNested.l2 : Nat → List (S32) → List Int → Int → Int → Int → Int → Int → List Int → List Int → Option (Bool)
  | 0, _, _, _, _, _, _, _, _, _ => none
  | k + 1, x6, x10, x11, x12, x13, x178000, x178001, x178002, x178003 => if x12 ≥ 0 then (if 0 ≤ x12 then (if x12 < (x10.length : Int) then (if x12 < (x178002.length : Int) then (if (rd x10 x12) = (wrap64 ((rd x178002 x12) - 1)) then (if x12 < (x178003.length : Int) then (laws_FnNested.l2 k x6 (x10.set (x12 : Int).toNat 0) x11 (wrap64 (x12 - 1)) (wrap64 (x13 - (wrap64 ((rd x10 x12) * (rd x178003 x12))))) x178000 x178001 x178002 x178003) else (none)) else (laws_FnNested.j4 k x6 x10 x11 x12 x13 x178000 x178001 x178002 x178003)) else (none)) else (none)) else (none)) else (laws_FnNested.j4 k x6 x10 x11 x12 x13 x178000 x178001 x178002 x178003)
end
def laws_FnNested.f (k : Nat) (l0 : List Int) (l1 : List Int) : Option (Bool) := (laws_r8Long.f l0 l1).bind fun t168 => (if t168 = true then (some true) else ((spec_R8Nest.f k l0).bind fun bt169 => ((impl_NestTrace.f k bt169.1 bt169.2.1 bt169.2.2.1 bt169.2.2.2).bind fun bt178 => (laws_FnNested.l0 k bt178.1 bt178.2 1 0 bt169.1 bt169.2.1 bt169.2.2.1 bt169.2.2.2))))
theorem laws_FnNested.mono_l : ∀ k, (∀ y0 y1 y2 y3 y4 y5 y6 y7, LeO (laws_FnNested.l0 k y0 y1 y2 y3 y4 y5 y6 y7) (laws_FnNested.l0 (k + 1) y0 y1 y2 y3 y4 y5 y6 y7)) ∧ (∀ y0 y1 y2 y3 y4 y5, LeO (laws_FnNested.j1 k y0 y1 y2 y3 y4 y5) (laws_FnNested.j1 (k + 1) y0 y1 y2 y3 y4 y5)) ∧ (∀ y0 y1 y2 y3 y4 y5 y6, LeO (laws_FnNested.l1 k y0 y1 y2 y3 y4 y5 y6) (laws_FnNested.l1 (k + 1) y0 y1 y2 y3 y4 y5 y6)) ∧ (∀ y0 y1 y2 y3 y4 y5 y6 y7 y8, LeO (laws_FnNested.j4 k y0 y1 y2 y3 y4 y5 y6 y7 y8) (laws_FnNested.j4 (k + 1) y0 y1 y2 y3 y4 y5 y6 y7 y8)) ∧ (∀ y0 y1 y2 y3 y4 y5 y6 y7 y8, LeO (laws_FnNested.l2 k y0 y1 y2 y3 y4 y5 y6 y7 y8) (laws_FnNested.l2 (k + 1) y0 y1 y2 y3 y4 y5 y6 y7 y8))
  | 0 => ⟨fun _ _ _ _ _ _ _ _ r h => by simp [laws_FnNested.l0] at h, fun _ _ _ _ _ _ r h => by simp [laws_FnNested.j1] at h, fun _ _ _ _ _ _ _ r h => by simp [laws_FnNested.l1] at h, fun _ _ _ _ _ _ _ _ _ r h => by simp [laws_FnNested.j4] at h, fun _ _ _ _ _ _ _ _ _ r h => by simp [laws_FnNested.l2] at h⟩
  | k + 1 => by
    obtain ⟨ih0, ih1, ih2, ih3, ih4⟩ := laws_FnNested.mono_l k
    refine ⟨?_, ?_, ?_, ?_, ?_⟩
    · intro y0 y1 y2 y3 y4 y5 y6 y7
      unfold laws_FnNested.l0
      repeat' first
      | (with_reducible exact ih0 _ _ _ _ _ _ _ _)
      | (with_reducible exact ih1 _ _ _ _ _ _)
      | (with_reducible exact ih2 _ _ _ _ _ _ _)
      | (with_reducible exact ih3 _ _ _ _ _ _ _ _ _)
      | (with_reducible exact ih4 _ _ _ _ _ _ _ _ _)
      | (with_reducible exact impl_NestTrace.mono _ _ _ _ _)
      | (with_reducible exact spec_R8Nest.mono _ _)
      | (with_reducible exact LeO.refl _)
      | (with_reducible exact LeO.none _)
      | (with_reducible refine LeO.ite ?_ ?_)
      | (with_reducible refine LeO.bind ?_ (fun _ => ?_))
      | exact ih0 _ _ _ _ _ _ _ _
      | exact ih1 _ _ _ _ _ _
      | exact ih2 _ _ _ _ _ _ _
      | exact ih3 _ _ _ _ _ _ _ _ _
      | exact ih4 _ _ _ _ _ _ _ _ _
      | exact impl_NestTrace.mono _ _ _ _ _
      | exact spec_R8Nest.mono _ _
      | exact LeO.none _
      | refine LeO.ite ?_ ?_
      | refine LeO.bind ?_ (fun _ => ?_)
    · intro y0 y1 y2 y3 y4 y5
      unfold laws_FnNested.j1
      repeat' first
      | (with_reducible exact ih0 _ _ _ _ _ _ _ _)
      | (with_reducible exact ih1 _ _ _ _ _ _)
      | (with_reducible exact ih2 _ _ _ _ _ _ _)
      | (with_reducible exact ih3 _ _ _ _ _ _ _ _ _)
      | (with_reducible exact ih4 _ _ _ _ _ _ _ _ _)
      | (with_reducible exact impl_NestTrace.mono _ _ _ _ _)
      | (with_reducible exact spec_R8Nest.mono _ _)
      | (with_reducible exact LeO.refl _)
      | (with_reducible exact LeO.none _)
      | (with_reducible refine LeO.ite ?_ ?_)
      | (with_reducible refine LeO.bind ?_ (fun _ => ?_))
      | exact ih0 _ _ _ _ _ _ _ _
      | exact ih1 _ _ _ _ _ _
      | exact ih2 _ _ _ _ _ _ _
      | exact ih3 _ _ _ _ _ _ _ _ _
      | exact ih4 _ _ _ _ _ _ _ _ _
      | exact impl_NestTrace.mono _ _ _ _ _
      | exact spec_R8Nest.mono _ _
      | exact LeO.none _
      | refine LeO.ite ?_ ?_
      | refine LeO.bind ?_ (fun _ => ?_)
    · intro y0 y1 y2 y3 y4 y5 y6
      unfold laws_FnNested.l1
      repeat' first
      | (with_reducible exact ih0 _ _ _ _ _ _ _ _)
      | (with_reducible exact ih1 _ _ _ _ _ _)
      | (with_reducible exact ih2 _ _ _ _ _ _ _)
      | (with_reducible exact ih3 _ _ _ _ _ _ _ _ _)
      | (with_reducible exact ih4 _ _ _ _ _ _ _ _ _)
      | (with_reducible exact impl_NestTrace.mono _ _ _ _ _)
      | (with_reducible exact spec_R8Nest.mono _ _)
      | (with_reducible exact LeO.refl _)
      | (with_reducible exact LeO.none _)
      | (with_reducible refine LeO.ite ?_ ?_)
      | (with_reducible refine LeO.bind ?_ (fun _ => ?_))
      | exact ih0 _ _ _ _ _ _ _ _
      | exact ih1 _ _ _ _ _ _
      | exact ih2 _ _ _ _ _ _ _
      | exact ih3 _ _ _ _ _ _ _ _ _
      | exact ih4 _ _ _ _ _ _ _ _ _
      | exact impl_NestTrace.mono _ _ _ _ _
      | exact spec_R8Nest.mono _ _
      | exact LeO.none _
      | refine LeO.ite ?_ ?_
      | refine LeO.bind ?_ (fun _ => ?_)
    · intro y0 y1 y2 y3 y4 y5 y6 y7 y8
      unfold laws_FnNested.j4
      repeat' first
      | (with_reducible exact ih0 _ _ _ _ _ _ _ _)
      | (with_reducible exact ih1 _ _ _ _ _ _)
      | (with_reducible exact ih2 _ _ _ _ _ _ _)
      | (with_reducible exact ih3 _ _ _ _ _ _ _ _ _)
      | (with_reducible exact ih4 _ _ _ _ _ _ _ _ _)
      | (with_reducible exact impl_NestTrace.mono _ _ _ _ _)
      | (with_reducible exact spec_R8Nest.mono _ _)
      | (with_reducible exact LeO.refl _)
      | (with_reducible exact LeO.none _)
      | (with_reducible refine LeO.ite ?_ ?_)
      | (with_reducible refine LeO.bind ?_ (fun _ => ?_))
      | exact ih0 _ _ _ _ _ _ _ _
      | exact ih1 _ _ _ _ _ _
      | exact ih2 _ _ _ _ _ _ _
      | exact ih3 _ _ _ _ _ _ _ _ _
      | exact ih4 _ _ _ _ _ _ _ _ _
      | exact impl_NestTrace.mono _ _ _ _ _
      | exact spec_R8Nest.mono _ _
      | exact LeO.none _
      | refine LeO.ite ?_ ?_
      | refine LeO.bind ?_ (fun _ => ?_)
    · intro y0 y1 y2 y3 y4 y5 y6 y7 y8
      unfold laws_FnNested.l2
      repeat' first
      | (with_reducible exact ih0 _ _ _ _ _ _ _ _)
      | (with_reducible exact ih1 _ _ _ _ _ _)
      | (with_reducible exact ih2 _ _ _ _ _ _ _)
      | (with_reducible exact ih3 _ _ _ _ _ _ _ _ _)
      | (with_reducible exact ih4 _ _ _ _ _ _ _ _ _)
      | (with_reducible exact impl_NestTrace.mono _ _ _ _ _)
      | (with_reducible exact spec_R8Nest.mono _ _)
      | (with_reducible exact LeO.refl _)
      | (with_reducible exact LeO.none _)
      | (with_reducible refine LeO.ite ?_ ?_)
      | (with_reducible refine LeO.bind ?_ (fun _ => ?_))
      | exact ih0 _ _ _ _ _ _ _ _
      | exact ih1 _ _ _ _ _ _
      | exact ih2 _ _ _ _ _ _ _
      | exact ih3 _ _ _ _ _ _ _ _ _
      | exact ih4 _ _ _ _ _ _ _ _ _
      | exact impl_NestTrace.mono _ _ _ _ _
      | exact spec_R8Nest.mono _ _
      | exact LeO.none _
      | refine LeO.ite ?_ ?_
      | refine LeO.bind ?_ (fun _ => ?_)
theorem laws_FnNested.mono : ∀ a0 a1 k, LeO (laws_FnNested.f k a0 a1) (laws_FnNested.f (k + 1) a0 a1) := by
  intro a0 a1 k
  obtain ⟨ih0, ih1, ih2, ih3, ih4⟩ := laws_FnNested.mono_l k
  unfold laws_FnNested.f
  repeat' first
      | (with_reducible exact ih0 _ _ _ _ _ _ _ _)
      | (with_reducible exact ih1 _ _ _ _ _ _)
      | (with_reducible exact ih2 _ _ _ _ _ _ _)
      | (with_reducible exact ih3 _ _ _ _ _ _ _ _ _)
      | (with_reducible exact ih4 _ _ _ _ _ _ _ _ _)
      | (with_reducible exact impl_NestTrace.mono _ _ _ _ _)
      | (with_reducible exact spec_R8Nest.mono _ _)
      | (with_reducible exact LeO.refl _)
      | (with_reducible exact LeO.none _)
      | (with_reducible refine LeO.ite ?_ ?_)
      | (with_reducible refine LeO.bind ?_ (fun _ => ?_))
      | exact ih0 _ _ _ _ _ _ _ _
      | exact ih1 _ _ _ _ _ _
      | exact ih2 _ _ _ _ _ _ _
      | exact ih3 _ _ _ _ _ _ _ _ _
      | exact ih4 _ _ _ _ _ _ _ _ _
      | exact impl_NestTrace.mono _ _ _ _ _
      | exact spec_R8Nest.mono _ _
      | exact LeO.none _
      | refine LeO.ite ?_ ?_
      | refine LeO.bind ?_ (fun _ => ?_)
set_option maxHeartbeats 8000000 in
set_option maxRecDepth 100000 in
theorem laws_FnNested.calls (k : Nat) (A0 : Option Addr) (c0 : Nat) (l0 : List Int) (A1 : Option Addr) (c1 : Nat) (l1 : List Int) (r : Bool) (w : World) (hr0 : Kd.C (Kd.int .u8) w A0 l0.length l0) (hc0 : l0.length ≤ c0) (hr1 : Kd.C (Kd.int .u8) w A1 l1.length l1) (hc1 : l1.length ≤ c1) (h : laws_FnNested.f k l0 l1 = some r) :
    Calls Try.prog 3 #[.slice A0 l0.length c0, .slice A1 l1.length c1] w fun e w' => e = .returned (.bool r) ∧ Below w.heap.size w w' := by
  have hu26 := Try.underlying26
  have HR0 := Aside0.mk hr0
  have HC0 := Aside0.mk hc0
  clear hr0 hc0
  have HR1 := Aside0.mk hr1
  have HC1 := Aside0.mk hc1
  clear hr1 hc1
  have HB := Aside0.mk (Below.refl w.heap.size w)
  have H : ((laws_r8Long.f l0 l1).bind fun t168 => (if t168 = true then (some true) else ((spec_R8Nest.f k l0).bind fun bt169 => ((impl_NestTrace.f k bt169.1 bt169.2.1 bt169.2.2.1 bt169.2.2.2).bind fun bt178 => (laws_FnNested.l0 k bt178.1 bt178.2 1 0 bt169.1 bt169.2.1 bt169.2.2.1 bt169.2.2.2))))) = some r := h
  clear h
  replace H := Option.bind_eq_some_iff.mp H
  obtain ⟨t168, A30, H⟩ := H
  replace H : (if t168 = true then (some true) else ((spec_R8Nest.f k l0).bind fun bt169 => ((impl_NestTrace.f k bt169.1 bt169.2.1 bt169.2.2.1 bt169.2.2.2).bind fun bt178 => (laws_FnNested.l0 k bt178.1 bt178.2 1 0 bt169.1 bt169.2.1 bt169.2.2.1 bt169.2.2.2)))) = some r := H
  have A3 := Aside0.mk A30
  clear A30
  by_cases c4 : t168 = true
  · subst c4
    have H1 : (some true) = some r := by rw [if_pos rfl] at H; exact H
    clear H
    have H := H1
    clear H1
    obtain rfl := Option.some.inj H
    go_enter Try.func3, Try.ntmps3
    go_wp2_with (first | (go_at_call 14; (with_reducible refine (laws_r8Long.calls _ _ l0 _ _ l1 true _ ?side1 ?side2 ?side3 ?side4 A3.out).mono ?_); (case side1 => repeat (first | exact HR0.out | (with_reducible refine Kd.C_alloc ?_ _) | (with_reducible refine Kd.C_drewN ?_ _) | (with_reducible refine Kd.C_drew ?_))); (case side2 => exact HC0.out); (case side3 => repeat (first | exact HR1.out | (with_reducible refine Kd.C_alloc ?_ _) | (with_reducible refine Kd.C_drewN ?_ _) | (with_reducible refine Kd.C_drew ?_))); (case side4 => exact HC1.out); rintro e w' ⟨rfl, ⟨nd, rfl⟩⟩; (try first | exact ⟨rfl, _, World.drewN_drewN _ _ _⟩ | exact ⟨rfl, _, Eq.trans (World.drewN_drewN _ _ _) (congrArg (World.drewN _) (Nat.add_assoc _ _ _))⟩)))
    repeat (go_quiet (first | (go_at_call 14; (with_reducible refine (laws_r8Long.calls _ _ l0 _ _ l1 true _ ?side1 ?side2 ?side3 ?side4 A3.out).mono ?_); (case side1 => repeat (first | exact HR0.out | (with_reducible refine Kd.C_alloc ?_ _) | (with_reducible refine Kd.C_drewN ?_ _) | (with_reducible refine Kd.C_drew ?_))); (case side2 => exact HC0.out); (case side3 => repeat (first | exact HR1.out | (with_reducible refine Kd.C_alloc ?_ _) | (with_reducible refine Kd.C_drewN ?_ _) | (with_reducible refine Kd.C_drew ?_))); (case side4 => exact HC1.out); rintro e w' ⟨rfl, ⟨nd, rfl⟩⟩; (try first | exact ⟨rfl, _, World.drewN_drewN _ _ _⟩ | exact ⟨rfl, _, Eq.trans (World.drewN_drewN _ _ _) (congrArg (World.drewN _) (Nat.add_assoc _ _ _))⟩))); try go_wp2_with (first | (go_at_call 14; (with_reducible refine (laws_r8Long.calls _ _ l0 _ _ l1 true _ ?side1 ?side2 ?side3 ?side4 A3.out).mono ?_); (case side1 => repeat (first | exact HR0.out | (with_reducible refine Kd.C_alloc ?_ _) | (with_reducible refine Kd.C_drewN ?_ _) | (with_reducible refine Kd.C_drew ?_))); (case side2 => exact HC0.out); (case side3 => repeat (first | exact HR1.out | (with_reducible refine Kd.C_alloc ?_ _) | (with_reducible refine Kd.C_drewN ?_ _) | (with_reducible refine Kd.C_drew ?_))); (case side4 => exact HC1.out); rintro e w' ⟨rfl, ⟨nd, rfl⟩⟩; (try first | exact ⟨rfl, _, World.drewN_drewN _ _ _⟩ | exact ⟨rfl, _, Eq.trans (World.drewN_drewN _ _ _) (congrArg (World.drewN _) (Nat.add_assoc _ _ _))⟩))))
    go_ret
    exact ⟨by first | rfl | (simp [errW_none, errW_some] <;> rfl) | (simp [*, errW_none, errW_some] <;> rfl), by repeat (first | (with_reducible first | exact HB.out | apply below_alloc | apply pw_below_drewN | apply below_drew1) | exact HB.out)⟩
  · replace c4 := Bool.eq_false_iff.mpr c4
    subst c4
    have H1 : ((spec_R8Nest.f k l0).bind fun bt169 => ((impl_NestTrace.f k bt169.1 bt169.2.1 bt169.2.2.1 bt169.2.2.2).bind fun bt178 => (laws_FnNested.l0 k bt178.1 bt178.2 1 0 bt169.1 bt169.2.1 bt169.2.2.1 bt169.2.2.2))) = some r := by rw [if_neg (show ¬ (false = true) by decide)] at H; exact H
    clear H
    have H := H1
    clear H1
    replace H := Option.bind_eq_some_iff.mp H
    obtain ⟨⟨t169, t170, t171, t174⟩, A50, H⟩ := H
    replace H : ((impl_NestTrace.f k t169 t170 t171 t174).bind fun bt178 => (laws_FnNested.l0 k bt178.1 bt178.2 1 0 t169 t170 t171 t174)) = some r := H
    have A5 := Aside0.mk A50
    clear A50
    replace H := Option.bind_eq_some_iff.mp H
    obtain ⟨⟨t178, t181⟩, A60, H⟩ := H
    replace H : (laws_FnNested.l0 k t178 t181 1 0 t169 t170 t171 t174) = some r := H
    have A6 := Aside0.mk A60
    clear A60
    have H' := Aside0.mk H
    clear H
    go_enter Try.func3, Try.ntmps3
    go_wp2_with (first | (go_at_call 14; (with_reducible refine (laws_r8Long.calls _ _ l0 _ _ l1 false _ ?side1 ?side2 ?side3 ?side4 A3.out).mono ?_); (case side1 => repeat (first | exact HR0.out | (with_reducible refine Kd.C_alloc ?_ _) | (with_reducible refine Kd.C_drewN ?_ _) | (with_reducible refine Kd.C_drew ?_))); (case side2 => exact HC0.out); (case side3 => repeat (first | exact HR1.out | (with_reducible refine Kd.C_alloc ?_ _) | (with_reducible refine Kd.C_drewN ?_ _) | (with_reducible refine Kd.C_drew ?_))); (case side4 => exact HC1.out); rintro e w' ⟨rfl, ⟨nd, rfl⟩⟩; (try first | exact ⟨rfl, _, World.drewN_drewN _ _ _⟩ | exact ⟨rfl, _, Eq.trans (World.drewN_drewN _ _ _) (congrArg (World.drewN _) (Nat.add_assoc _ _ _))⟩)) | (go_at_call 15; (with_reducible refine (spec_R8Nest.calls k _ _ l0 t169 t170 t171 t174 _ ?side1 ?side2 A5.out).mono ?_); (case side1 => repeat (first | exact HR0.out | (with_reducible refine Kd.C_alloc ?_ _) | (with_reducible refine Kd.C_drewN ?_ _) | (with_reducible refine Kd.C_drew ?_))); (case side2 => exact HC0.out); rintro e w7 ⟨v172, v175, rfl, ho0, ho1, hb⟩; have n0_ := Aside0.mk (Kd.R_lower ho0 (below_size (by repeat (first | (with_reducible first | exact HB.out | apply below_alloc | apply pw_below_drewN | apply below_drew1) | exact HB.out)))); have n1_ := Aside0.mk (Kd.R_lower ho1 (below_size (by repeat (first | (with_reducible first | exact HB.out | apply below_alloc | apply pw_below_drewN | apply below_drew1) | exact HB.out)))); have n2_ := Aside0.mk (below_step (by repeat (first | (with_reducible first | exact HB.out | apply below_alloc | apply pw_below_drewN | apply below_drew1) | exact HB.out)) hb); clear HB; have HO173 := n0_; have HO176 := n1_; have HB := n2_; clear n0_ n1_ n2_; (try clear hb); (try clear hb2); (try clear hk); (try clear hi); (try clear ho0); (try clear ho1)) | ((with_reducible refine gate_dst (N := 5) rfl ?_); (try (refine gate_guard (by rfl) ?_; dsimp only)); refine box_event ?hg (N := 5) ?hd (cs := #[.int .i64 0, .int .i64 0, .slice none 0 0, .slice none 0 0]) (t := 26) ?hr ?_; (case hd => rfl); (case hg => rfl); (case hr => first | (go_simp; done) | (go_simp; rfl)); intro gb177 hg w8 hbox hb; have n0_ := Aside0.mk (Kd.R_below (by (with_reducible repeat (first | apply Kd.R_alloc | apply Kd.R_drewN | apply Kd.R_drew)); exact HO173.out) hb); have n1_ := Aside0.mk (Kd.R_below (by (with_reducible repeat (first | apply Kd.R_alloc | apply Kd.R_drewN | apply Kd.R_drew)); exact HO176.out) hb); have n2_ := Aside0.mk (below_step (by repeat (first | (with_reducible first | exact HB.out | apply below_alloc | apply pw_below_drewN | apply below_drew1) | exact HB.out)) hb); have n3_ := Aside0.mk (hbox); have n4_ := Aside0.mk ((by rw [hg]; exact (below_size (by repeat (first | (with_reducible first | exact HB.out | apply below_alloc | apply pw_below_drewN | apply below_drew1) | exact HB.out))) : w.heap.size ≤ gb177)); have n5_ := Aside0.mk ((by rw [hg]; exact (below_size (by repeat (first | (with_reducible first | exact HB.out | apply below_alloc | apply pw_below_drewN | apply below_drew1) | exact HB.out))) : w.heap.size ≤ gb177)); clear HO173; clear HO176; clear HB; have HO173 := n0_; have HO176 := n1_; have HB := n2_; have BK177 := n3_; have GW177 := n4_; have GE177 := n5_; clear n0_ n1_ n2_ n3_ n4_ n5_; clear hb hbox hg; have hcz9_0 : w8.cell? ⟨gb177, 0, none⟩ = some (.int .i64 0) := (blk_cell BK177.out 0).trans rfl; have hcz9_1 : w8.cell? ⟨gb177, 1, none⟩ = some (.int .i64 0) := (blk_cell BK177.out 1).trans rfl; have hcz9_2 : w8.cell? ⟨gb177, 2, none⟩ = some (.slice none 0 0) := (blk_cell BK177.out 2).trans rfl; have hcz9_3 : w8.cell? ⟨gb177, 3, none⟩ = some (.slice none 0 0) := (blk_cell BK177.out 3).trans rfl; have hfz9_0 := blk_frozen BK177.out 0; have hfz9_1 := blk_frozen BK177.out 1; have hfz9_2 := blk_frozen BK177.out 2; have hfz9_3 := blk_frozen BK177.out 3; obtain ⟨Ao10, co10, eo10⟩ := Kd.R_slice HO173.out; subst eo10; obtain ⟨Ao11, co11, eo11⟩ := Kd.R_slice HO176.out; subst eo11) | (go_at_call 16; (with_reducible refine (impl_NestTrace.calls k t169 t170 _ _ t171 _ _ t174 t178 t181 _ ?side1 ?side2 ?side3 ?side4 A6.out).mono ?_); (case side1 => refine (Kd.R_reads' (e := 2) (base := w.heap.size) (ok := fun k_ => some k_ ≠ (.slice Ao11 t174.length co11 : Value).ownBlock) (n := t171.length) (c := co10) ?_).2.2; exact (by (with_reducible repeat (first | apply Kd.R_alloc | apply Kd.R_drewN | apply Kd.R_drew)); exact (Kd.R_mono (Kd.R_far (p := ⟨gb177, 3, none⟩) (Kd.R_far (p := ⟨gb177, 2, none⟩) (Kd.R_far (p := ⟨gb177, 1, none⟩) (Kd.R_far (p := ⟨gb177, 0, none⟩) (Kd.R_types HO173.out BK177.out (by decide)) (fun _ hk => hk.2) (.int .i64 t169)) (fun _ hk => hk.2) (.int .i64 t170)) (fun _ hk => hk.2) (.slice Ao10 t171.length co10)) (fun _ hk => hk.2) (.slice Ao11 t174.length co11)) (fun _ h_ => h_.1)))); (case side2 => exact (Kd.R_reads' HO173.out).2.1); (case side3 => refine (Kd.R_reads' (e := 2) (base := w.heap.size) (ok := fun k_ => some k_ ≠ (.slice Ao10 t171.length co10 : Value).ownBlock) (n := t174.length) (c := co11) ?_).2.2; exact (by (with_reducible repeat (first | apply Kd.R_alloc | apply Kd.R_drewN | apply Kd.R_drew)); exact (Kd.R_mono (Kd.R_far (p := ⟨gb177, 3, none⟩) (Kd.R_far (p := ⟨gb177, 2, none⟩) (Kd.R_far (p := ⟨gb177, 1, none⟩) (Kd.R_far (p := ⟨gb177, 0, none⟩) (Kd.R_types HO176.out BK177.out (by decide)) (fun _ hk => hk.2) (.int .i64 t169)) (fun _ hk => hk.2) (.int .i64 t170)) (fun _ hk => hk.2) (.slice Ao10 t171.length co10)) (fun _ hk => hk.2) (.slice Ao11 t174.length co11)) (fun _ h_ => h_.1)))); (case side4 => exact (Kd.R_reads' HO176.out).2.1); rintro e w12 ⟨v179, rfl, ho0, hb⟩; have n0_ := Aside0.mk (Kd.R_below (by (with_reducible repeat (first | apply Kd.R_alloc | apply Kd.R_drewN | apply Kd.R_drew)); exact (Kd.R_mono (Kd.R_far (p := ⟨gb177, 3, none⟩) (Kd.R_far (p := ⟨gb177, 2, none⟩) (Kd.R_far (p := ⟨gb177, 1, none⟩) (Kd.R_far (p := ⟨gb177, 0, none⟩) (Kd.R_types HO173.out BK177.out (by decide)) (fun _ hk => hk.2) (.int .i64 t169)) (fun _ hk => hk.2) (.int .i64 t170)) (fun _ hk => hk.2) (.slice Ao10 t171.length co10)) (fun _ hk => hk.2) (.slice Ao11 t174.length co11)) (fun _ h_ => h_.1))) hb); have n1_ := Aside0.mk (Kd.R_below (by (with_reducible repeat (first | apply Kd.R_alloc | apply Kd.R_drewN | apply Kd.R_drew)); exact (Kd.R_mono (Kd.R_far (p := ⟨gb177, 3, none⟩) (Kd.R_far (p := ⟨gb177, 2, none⟩) (Kd.R_far (p := ⟨gb177, 1, none⟩) (Kd.R_far (p := ⟨gb177, 0, none⟩) (Kd.R_types HO176.out BK177.out (by decide)) (fun _ hk => hk.2) (.int .i64 t169)) (fun _ hk => hk.2) (.int .i64 t170)) (fun _ hk => hk.2) (.slice Ao10 t171.length co10)) (fun _ hk => hk.2) (.slice Ao11 t174.length co11)) (fun _ h_ => h_.1))) hb); have n2_ := Aside0.mk (Kd.R_lower ho0 (below_size (by repeat (first | (with_reducible first | exact HB.out | apply below_alloc | apply pw_below_drewN | apply below_drew1 | refine below_set ?_ GE177.out) | exact HB.out)))); have n3_ := Aside0.mk (blk_below (g := gb177) (o := .cells #[.int .i64 t169, .int .i64 t170, .slice Ao10 t171.length co10, .slice Ao11 t174.length co11] 26 (0, 0)) (by (with_reducible repeat (first | refine blk_drewN ?_ _ | refine blk_drew ?_ | refine blk_alloc ?_ _)); refine blk_put (cs := #[.int .i64 t169, .int .i64 t170, .slice Ao10 t171.length co10, .slice none 0 0]) ?_ 3 _ rfl; (with_reducible repeat (first | refine blk_drewN ?_ _ | refine blk_drew ?_ | refine blk_alloc ?_ _)); refine blk_put (cs := #[.int .i64 t169, .int .i64 t170, .slice none 0 0, .slice none 0 0]) ?_ 2 _ rfl; (with_reducible repeat (first | refine blk_drewN ?_ _ | refine blk_drew ?_ | refine blk_alloc ?_ _)); refine blk_put (cs := #[.int .i64 t169, .int .i64 0, .slice none 0 0, .slice none 0 0]) ?_ 1 _ rfl; (with_reducible repeat (first | refine blk_drewN ?_ _ | refine blk_drew ?_ | refine blk_alloc ?_ _)); refine blk_put (cs := #[.int .i64 0, .int .i64 0, .slice none 0 0, .slice none 0 0]) ?_ 0 _ rfl; (with_reducible repeat (first | refine blk_drewN ?_ _ | refine blk_drew ?_ | refine blk_alloc ?_ _)); exact BK177.out) hb); have n4_ := Aside0.mk (below_step (by repeat (first | (with_reducible first | exact HB.out | apply below_alloc | apply pw_below_drewN | apply below_drew1 | refine below_set ?_ GE177.out) | exact HB.out)) hb); clear HO173; clear HO176; clear BK177; clear HB; have HO173 := n0_; have HO176 := n1_; have HO180 := n2_; have BK177 := n3_; have HB := n4_; clear n0_ n1_ n2_ n3_ n4_; (try clear hb); (try clear hb2); (try clear hk); (try clear hi); (try clear ho0)))
    repeat (go_quiet (first | (go_at_call 14; (with_reducible refine (laws_r8Long.calls _ _ l0 _ _ l1 false _ ?side1 ?side2 ?side3 ?side4 A3.out).mono ?_); (case side1 => repeat (first | exact HR0.out | (with_reducible refine Kd.C_alloc ?_ _) | (with_reducible refine Kd.C_drewN ?_ _) | (with_reducible refine Kd.C_drew ?_))); (case side2 => exact HC0.out); (case side3 => repeat (first | exact HR1.out | (with_reducible refine Kd.C_alloc ?_ _) | (with_reducible refine Kd.C_drewN ?_ _) | (with_reducible refine Kd.C_drew ?_))); (case side4 => exact HC1.out); rintro e w' ⟨rfl, ⟨nd, rfl⟩⟩; (try first | exact ⟨rfl, _, World.drewN_drewN _ _ _⟩ | exact ⟨rfl, _, Eq.trans (World.drewN_drewN _ _ _) (congrArg (World.drewN _) (Nat.add_assoc _ _ _))⟩)) | (go_at_call 15; (with_reducible refine (spec_R8Nest.calls k _ _ l0 t169 t170 t171 t174 _ ?side1 ?side2 A5.out).mono ?_); (case side1 => repeat (first | exact HR0.out | (with_reducible refine Kd.C_alloc ?_ _) | (with_reducible refine Kd.C_drewN ?_ _) | (with_reducible refine Kd.C_drew ?_))); (case side2 => exact HC0.out); rintro e w7 ⟨v172, v175, rfl, ho0, ho1, hb⟩; have n0_ := Aside0.mk (Kd.R_lower ho0 (below_size (by repeat (first | (with_reducible first | exact HB.out | apply below_alloc | apply pw_below_drewN | apply below_drew1) | exact HB.out)))); have n1_ := Aside0.mk (Kd.R_lower ho1 (below_size (by repeat (first | (with_reducible first | exact HB.out | apply below_alloc | apply pw_below_drewN | apply below_drew1) | exact HB.out)))); have n2_ := Aside0.mk (below_step (by repeat (first | (with_reducible first | exact HB.out | apply below_alloc | apply pw_below_drewN | apply below_drew1) | exact HB.out)) hb); clear HB; have HO173 := n0_; have HO176 := n1_; have HB := n2_; clear n0_ n1_ n2_; (try clear hb); (try clear hb2); (try clear hk); (try clear hi); (try clear ho0); (try clear ho1)) | ((with_reducible refine gate_dst (N := 5) rfl ?_); (try (refine gate_guard (by rfl) ?_; dsimp only)); refine box_event ?hg (N := 5) ?hd (cs := #[.int .i64 0, .int .i64 0, .slice none 0 0, .slice none 0 0]) (t := 26) ?hr ?_; (case hd => rfl); (case hg => rfl); (case hr => first | (go_simp; done) | (go_simp; rfl)); intro gb177 hg w8 hbox hb; have n0_ := Aside0.mk (Kd.R_below (by (with_reducible repeat (first | apply Kd.R_alloc | apply Kd.R_drewN | apply Kd.R_drew)); exact HO173.out) hb); have n1_ := Aside0.mk (Kd.R_below (by (with_reducible repeat (first | apply Kd.R_alloc | apply Kd.R_drewN | apply Kd.R_drew)); exact HO176.out) hb); have n2_ := Aside0.mk (below_step (by repeat (first | (with_reducible first | exact HB.out | apply below_alloc | apply pw_below_drewN | apply below_drew1) | exact HB.out)) hb); have n3_ := Aside0.mk (hbox); have n4_ := Aside0.mk ((by rw [hg]; exact (below_size (by repeat (first | (with_reducible first | exact HB.out | apply below_alloc | apply pw_below_drewN | apply below_drew1) | exact HB.out))) : w.heap.size ≤ gb177)); have n5_ := Aside0.mk ((by rw [hg]; exact (below_size (by repeat (first | (with_reducible first | exact HB.out | apply below_alloc | apply pw_below_drewN | apply below_drew1) | exact HB.out))) : w.heap.size ≤ gb177)); clear HO173; clear HO176; clear HB; have HO173 := n0_; have HO176 := n1_; have HB := n2_; have BK177 := n3_; have GW177 := n4_; have GE177 := n5_; clear n0_ n1_ n2_ n3_ n4_ n5_; clear hb hbox hg; have hcz9_0 : w8.cell? ⟨gb177, 0, none⟩ = some (.int .i64 0) := (blk_cell BK177.out 0).trans rfl; have hcz9_1 : w8.cell? ⟨gb177, 1, none⟩ = some (.int .i64 0) := (blk_cell BK177.out 1).trans rfl; have hcz9_2 : w8.cell? ⟨gb177, 2, none⟩ = some (.slice none 0 0) := (blk_cell BK177.out 2).trans rfl; have hcz9_3 : w8.cell? ⟨gb177, 3, none⟩ = some (.slice none 0 0) := (blk_cell BK177.out 3).trans rfl; have hfz9_0 := blk_frozen BK177.out 0; have hfz9_1 := blk_frozen BK177.out 1; have hfz9_2 := blk_frozen BK177.out 2; have hfz9_3 := blk_frozen BK177.out 3; obtain ⟨Ao10, co10, eo10⟩ := Kd.R_slice HO173.out; subst eo10; obtain ⟨Ao11, co11, eo11⟩ := Kd.R_slice HO176.out; subst eo11) | (go_at_call 16; (with_reducible refine (impl_NestTrace.calls k t169 t170 _ _ t171 _ _ t174 t178 t181 _ ?side1 ?side2 ?side3 ?side4 A6.out).mono ?_); (case side1 => refine (Kd.R_reads' (e := 2) (base := w.heap.size) (ok := fun k_ => some k_ ≠ (.slice Ao11 t174.length co11 : Value).ownBlock) (n := t171.length) (c := co10) ?_).2.2; exact (by (with_reducible repeat (first | apply Kd.R_alloc | apply Kd.R_drewN | apply Kd.R_drew)); exact (Kd.R_mono (Kd.R_far (p := ⟨gb177, 3, none⟩) (Kd.R_far (p := ⟨gb177, 2, none⟩) (Kd.R_far (p := ⟨gb177, 1, none⟩) (Kd.R_far (p := ⟨gb177, 0, none⟩) (Kd.R_types HO173.out BK177.out (by decide)) (fun _ hk => hk.2) (.int .i64 t169)) (fun _ hk => hk.2) (.int .i64 t170)) (fun _ hk => hk.2) (.slice Ao10 t171.length co10)) (fun _ hk => hk.2) (.slice Ao11 t174.length co11)) (fun _ h_ => h_.1)))); (case side2 => exact (Kd.R_reads' HO173.out).2.1); (case side3 => refine (Kd.R_reads' (e := 2) (base := w.heap.size) (ok := fun k_ => some k_ ≠ (.slice Ao10 t171.length co10 : Value).ownBlock) (n := t174.length) (c := co11) ?_).2.2; exact (by (with_reducible repeat (first | apply Kd.R_alloc | apply Kd.R_drewN | apply Kd.R_drew)); exact (Kd.R_mono (Kd.R_far (p := ⟨gb177, 3, none⟩) (Kd.R_far (p := ⟨gb177, 2, none⟩) (Kd.R_far (p := ⟨gb177, 1, none⟩) (Kd.R_far (p := ⟨gb177, 0, none⟩) (Kd.R_types HO176.out BK177.out (by decide)) (fun _ hk => hk.2) (.int .i64 t169)) (fun _ hk => hk.2) (.int .i64 t170)) (fun _ hk => hk.2) (.slice Ao10 t171.length co10)) (fun _ hk => hk.2) (.slice Ao11 t174.length co11)) (fun _ h_ => h_.1)))); (case side4 => exact (Kd.R_reads' HO176.out).2.1); rintro e w12 ⟨v179, rfl, ho0, hb⟩; have n0_ := Aside0.mk (Kd.R_below (by (with_reducible repeat (first | apply Kd.R_alloc | apply Kd.R_drewN | apply Kd.R_drew)); exact (Kd.R_mono (Kd.R_far (p := ⟨gb177, 3, none⟩) (Kd.R_far (p := ⟨gb177, 2, none⟩) (Kd.R_far (p := ⟨gb177, 1, none⟩) (Kd.R_far (p := ⟨gb177, 0, none⟩) (Kd.R_types HO173.out BK177.out (by decide)) (fun _ hk => hk.2) (.int .i64 t169)) (fun _ hk => hk.2) (.int .i64 t170)) (fun _ hk => hk.2) (.slice Ao10 t171.length co10)) (fun _ hk => hk.2) (.slice Ao11 t174.length co11)) (fun _ h_ => h_.1))) hb); have n1_ := Aside0.mk (Kd.R_below (by (with_reducible repeat (first | apply Kd.R_alloc | apply Kd.R_drewN | apply Kd.R_drew)); exact (Kd.R_mono (Kd.R_far (p := ⟨gb177, 3, none⟩) (Kd.R_far (p := ⟨gb177, 2, none⟩) (Kd.R_far (p := ⟨gb177, 1, none⟩) (Kd.R_far (p := ⟨gb177, 0, none⟩) (Kd.R_types HO176.out BK177.out (by decide)) (fun _ hk => hk.2) (.int .i64 t169)) (fun _ hk => hk.2) (.int .i64 t170)) (fun _ hk => hk.2) (.slice Ao10 t171.length co10)) (fun _ hk => hk.2) (.slice Ao11 t174.length co11)) (fun _ h_ => h_.1))) hb); have n2_ := Aside0.mk (Kd.R_lower ho0 (below_size (by repeat (first | (with_reducible first | exact HB.out | apply below_alloc | apply pw_below_drewN | apply below_drew1 | refine below_set ?_ GE177.out) | exact HB.out)))); have n3_ := Aside0.mk (blk_below (g := gb177) (o := .cells #[.int .i64 t169, .int .i64 t170, .slice Ao10 t171.length co10, .slice Ao11 t174.length co11] 26 (0, 0)) (by (with_reducible repeat (first | refine blk_drewN ?_ _ | refine blk_drew ?_ | refine blk_alloc ?_ _)); refine blk_put (cs := #[.int .i64 t169, .int .i64 t170, .slice Ao10 t171.length co10, .slice none 0 0]) ?_ 3 _ rfl; (with_reducible repeat (first | refine blk_drewN ?_ _ | refine blk_drew ?_ | refine blk_alloc ?_ _)); refine blk_put (cs := #[.int .i64 t169, .int .i64 t170, .slice none 0 0, .slice none 0 0]) ?_ 2 _ rfl; (with_reducible repeat (first | refine blk_drewN ?_ _ | refine blk_drew ?_ | refine blk_alloc ?_ _)); refine blk_put (cs := #[.int .i64 t169, .int .i64 0, .slice none 0 0, .slice none 0 0]) ?_ 1 _ rfl; (with_reducible repeat (first | refine blk_drewN ?_ _ | refine blk_drew ?_ | refine blk_alloc ?_ _)); refine blk_put (cs := #[.int .i64 0, .int .i64 0, .slice none 0 0, .slice none 0 0]) ?_ 0 _ rfl; (with_reducible repeat (first | refine blk_drewN ?_ _ | refine blk_drew ?_ | refine blk_alloc ?_ _)); exact BK177.out) hb); have n4_ := Aside0.mk (below_step (by repeat (first | (with_reducible first | exact HB.out | apply below_alloc | apply pw_below_drewN | apply below_drew1 | refine below_set ?_ GE177.out) | exact HB.out)) hb); clear HO173; clear HO176; clear BK177; clear HB; have HO173 := n0_; have HO176 := n1_; have HO180 := n2_; have BK177 := n3_; have HB := n4_; clear n0_ n1_ n2_ n3_ n4_; (try clear hb); (try clear hb2); (try clear hk); (try clear hi); (try clear ho0))); try go_wp2_with (first | (go_at_call 14; (with_reducible refine (laws_r8Long.calls _ _ l0 _ _ l1 false _ ?side1 ?side2 ?side3 ?side4 A3.out).mono ?_); (case side1 => repeat (first | exact HR0.out | (with_reducible refine Kd.C_alloc ?_ _) | (with_reducible refine Kd.C_drewN ?_ _) | (with_reducible refine Kd.C_drew ?_))); (case side2 => exact HC0.out); (case side3 => repeat (first | exact HR1.out | (with_reducible refine Kd.C_alloc ?_ _) | (with_reducible refine Kd.C_drewN ?_ _) | (with_reducible refine Kd.C_drew ?_))); (case side4 => exact HC1.out); rintro e w' ⟨rfl, ⟨nd, rfl⟩⟩; (try first | exact ⟨rfl, _, World.drewN_drewN _ _ _⟩ | exact ⟨rfl, _, Eq.trans (World.drewN_drewN _ _ _) (congrArg (World.drewN _) (Nat.add_assoc _ _ _))⟩)) | (go_at_call 15; (with_reducible refine (spec_R8Nest.calls k _ _ l0 t169 t170 t171 t174 _ ?side1 ?side2 A5.out).mono ?_); (case side1 => repeat (first | exact HR0.out | (with_reducible refine Kd.C_alloc ?_ _) | (with_reducible refine Kd.C_drewN ?_ _) | (with_reducible refine Kd.C_drew ?_))); (case side2 => exact HC0.out); rintro e w7 ⟨v172, v175, rfl, ho0, ho1, hb⟩; have n0_ := Aside0.mk (Kd.R_lower ho0 (below_size (by repeat (first | (with_reducible first | exact HB.out | apply below_alloc | apply pw_below_drewN | apply below_drew1) | exact HB.out)))); have n1_ := Aside0.mk (Kd.R_lower ho1 (below_size (by repeat (first | (with_reducible first | exact HB.out | apply below_alloc | apply pw_below_drewN | apply below_drew1) | exact HB.out)))); have n2_ := Aside0.mk (below_step (by repeat (first | (with_reducible first | exact HB.out | apply below_alloc | apply pw_below_drewN | apply below_drew1) | exact HB.out)) hb); clear HB; have HO173 := n0_; have HO176 := n1_; have HB := n2_; clear n0_ n1_ n2_; (try clear hb); (try clear hb2); (try clear hk); (try clear hi); (try clear ho0); (try clear ho1)) | ((with_reducible refine gate_dst (N := 5) rfl ?_); (try (refine gate_guard (by rfl) ?_; dsimp only)); refine box_event ?hg (N := 5) ?hd (cs := #[.int .i64 0, .int .i64 0, .slice none 0 0, .slice none 0 0]) (t := 26) ?hr ?_; (case hd => rfl); (case hg => rfl); (case hr => first | (go_simp; done) | (go_simp; rfl)); intro gb177 hg w8 hbox hb; have n0_ := Aside0.mk (Kd.R_below (by (with_reducible repeat (first | apply Kd.R_alloc | apply Kd.R_drewN | apply Kd.R_drew)); exact HO173.out) hb); have n1_ := Aside0.mk (Kd.R_below (by (with_reducible repeat (first | apply Kd.R_alloc | apply Kd.R_drewN | apply Kd.R_drew)); exact HO176.out) hb); have n2_ := Aside0.mk (below_step (by repeat (first | (with_reducible first | exact HB.out | apply below_alloc | apply pw_below_drewN | apply below_drew1) | exact HB.out)) hb); have n3_ := Aside0.mk (hbox); have n4_ := Aside0.mk ((by rw [hg]; exact (below_size (by repeat (first | (with_reducible first | exact HB.out | apply below_alloc | apply pw_below_drewN | apply below_drew1) | exact HB.out))) : w.heap.size ≤ gb177)); have n5_ := Aside0.mk ((by rw [hg]; exact (below_size (by repeat (first | (with_reducible first | exact HB.out | apply below_alloc | apply pw_below_drewN | apply below_drew1) | exact HB.out))) : w.heap.size ≤ gb177)); clear HO173; clear HO176; clear HB; have HO173 := n0_; have HO176 := n1_; have HB := n2_; have BK177 := n3_; have GW177 := n4_; have GE177 := n5_; clear n0_ n1_ n2_ n3_ n4_ n5_; clear hb hbox hg; have hcz9_0 : w8.cell? ⟨gb177, 0, none⟩ = some (.int .i64 0) := (blk_cell BK177.out 0).trans rfl; have hcz9_1 : w8.cell? ⟨gb177, 1, none⟩ = some (.int .i64 0) := (blk_cell BK177.out 1).trans rfl; have hcz9_2 : w8.cell? ⟨gb177, 2, none⟩ = some (.slice none 0 0) := (blk_cell BK177.out 2).trans rfl; have hcz9_3 : w8.cell? ⟨gb177, 3, none⟩ = some (.slice none 0 0) := (blk_cell BK177.out 3).trans rfl; have hfz9_0 := blk_frozen BK177.out 0; have hfz9_1 := blk_frozen BK177.out 1; have hfz9_2 := blk_frozen BK177.out 2; have hfz9_3 := blk_frozen BK177.out 3; obtain ⟨Ao10, co10, eo10⟩ := Kd.R_slice HO173.out; subst eo10; obtain ⟨Ao11, co11, eo11⟩ := Kd.R_slice HO176.out; subst eo11) | (go_at_call 16; (with_reducible refine (impl_NestTrace.calls k t169 t170 _ _ t171 _ _ t174 t178 t181 _ ?side1 ?side2 ?side3 ?side4 A6.out).mono ?_); (case side1 => refine (Kd.R_reads' (e := 2) (base := w.heap.size) (ok := fun k_ => some k_ ≠ (.slice Ao11 t174.length co11 : Value).ownBlock) (n := t171.length) (c := co10) ?_).2.2; exact (by (with_reducible repeat (first | apply Kd.R_alloc | apply Kd.R_drewN | apply Kd.R_drew)); exact (Kd.R_mono (Kd.R_far (p := ⟨gb177, 3, none⟩) (Kd.R_far (p := ⟨gb177, 2, none⟩) (Kd.R_far (p := ⟨gb177, 1, none⟩) (Kd.R_far (p := ⟨gb177, 0, none⟩) (Kd.R_types HO173.out BK177.out (by decide)) (fun _ hk => hk.2) (.int .i64 t169)) (fun _ hk => hk.2) (.int .i64 t170)) (fun _ hk => hk.2) (.slice Ao10 t171.length co10)) (fun _ hk => hk.2) (.slice Ao11 t174.length co11)) (fun _ h_ => h_.1)))); (case side2 => exact (Kd.R_reads' HO173.out).2.1); (case side3 => refine (Kd.R_reads' (e := 2) (base := w.heap.size) (ok := fun k_ => some k_ ≠ (.slice Ao10 t171.length co10 : Value).ownBlock) (n := t174.length) (c := co11) ?_).2.2; exact (by (with_reducible repeat (first | apply Kd.R_alloc | apply Kd.R_drewN | apply Kd.R_drew)); exact (Kd.R_mono (Kd.R_far (p := ⟨gb177, 3, none⟩) (Kd.R_far (p := ⟨gb177, 2, none⟩) (Kd.R_far (p := ⟨gb177, 1, none⟩) (Kd.R_far (p := ⟨gb177, 0, none⟩) (Kd.R_types HO176.out BK177.out (by decide)) (fun _ hk => hk.2) (.int .i64 t169)) (fun _ hk => hk.2) (.int .i64 t170)) (fun _ hk => hk.2) (.slice Ao10 t171.length co10)) (fun _ hk => hk.2) (.slice Ao11 t174.length co11)) (fun _ h_ => h_.1)))); (case side4 => exact (Kd.R_reads' HO176.out).2.1); rintro e w12 ⟨v179, rfl, ho0, hb⟩; have n0_ := Aside0.mk (Kd.R_below (by (with_reducible repeat (first | apply Kd.R_alloc | apply Kd.R_drewN | apply Kd.R_drew)); exact (Kd.R_mono (Kd.R_far (p := ⟨gb177, 3, none⟩) (Kd.R_far (p := ⟨gb177, 2, none⟩) (Kd.R_far (p := ⟨gb177, 1, none⟩) (Kd.R_far (p := ⟨gb177, 0, none⟩) (Kd.R_types HO173.out BK177.out (by decide)) (fun _ hk => hk.2) (.int .i64 t169)) (fun _ hk => hk.2) (.int .i64 t170)) (fun _ hk => hk.2) (.slice Ao10 t171.length co10)) (fun _ hk => hk.2) (.slice Ao11 t174.length co11)) (fun _ h_ => h_.1))) hb); have n1_ := Aside0.mk (Kd.R_below (by (with_reducible repeat (first | apply Kd.R_alloc | apply Kd.R_drewN | apply Kd.R_drew)); exact (Kd.R_mono (Kd.R_far (p := ⟨gb177, 3, none⟩) (Kd.R_far (p := ⟨gb177, 2, none⟩) (Kd.R_far (p := ⟨gb177, 1, none⟩) (Kd.R_far (p := ⟨gb177, 0, none⟩) (Kd.R_types HO176.out BK177.out (by decide)) (fun _ hk => hk.2) (.int .i64 t169)) (fun _ hk => hk.2) (.int .i64 t170)) (fun _ hk => hk.2) (.slice Ao10 t171.length co10)) (fun _ hk => hk.2) (.slice Ao11 t174.length co11)) (fun _ h_ => h_.1))) hb); have n2_ := Aside0.mk (Kd.R_lower ho0 (below_size (by repeat (first | (with_reducible first | exact HB.out | apply below_alloc | apply pw_below_drewN | apply below_drew1 | refine below_set ?_ GE177.out) | exact HB.out)))); have n3_ := Aside0.mk (blk_below (g := gb177) (o := .cells #[.int .i64 t169, .int .i64 t170, .slice Ao10 t171.length co10, .slice Ao11 t174.length co11] 26 (0, 0)) (by (with_reducible repeat (first | refine blk_drewN ?_ _ | refine blk_drew ?_ | refine blk_alloc ?_ _)); refine blk_put (cs := #[.int .i64 t169, .int .i64 t170, .slice Ao10 t171.length co10, .slice none 0 0]) ?_ 3 _ rfl; (with_reducible repeat (first | refine blk_drewN ?_ _ | refine blk_drew ?_ | refine blk_alloc ?_ _)); refine blk_put (cs := #[.int .i64 t169, .int .i64 t170, .slice none 0 0, .slice none 0 0]) ?_ 2 _ rfl; (with_reducible repeat (first | refine blk_drewN ?_ _ | refine blk_drew ?_ | refine blk_alloc ?_ _)); refine blk_put (cs := #[.int .i64 t169, .int .i64 0, .slice none 0 0, .slice none 0 0]) ?_ 1 _ rfl; (with_reducible repeat (first | refine blk_drewN ?_ _ | refine blk_drew ?_ | refine blk_alloc ?_ _)); refine blk_put (cs := #[.int .i64 0, .int .i64 0, .slice none 0 0, .slice none 0 0]) ?_ 0 _ rfl; (with_reducible repeat (first | refine blk_drewN ?_ _ | refine blk_drew ?_ | refine blk_alloc ?_ _)); exact BK177.out) hb); have n4_ := Aside0.mk (below_step (by repeat (first | (with_reducible first | exact HB.out | apply below_alloc | apply pw_below_drewN | apply below_drew1 | refine below_set ?_ GE177.out) | exact HB.out)) hb); clear HO173; clear HO176; clear BK177; clear HB; have HO173 := n0_; have HO176 := n1_; have HO180 := n2_; have BK177 := n3_; have HB := n4_; clear n0_ n1_ n2_ n3_ n4_; (try clear hb); (try clear hb2); (try clear hk); (try clear hi); (try clear ho0))))
    go_loopg [8, 9] k (fun kq v8 v9 w' => ∃ (x8_1 : Int) (x9_1 : Int), v8 = .int .i64 x8_1 ∧ v9 = .int .i64 x9_1 ∧ Aside0 (laws_FnNested.l0 kq t178 t181 x8_1 x9_1 t169 t170 t171 t174 = some r) ∧ Aside0 (kq ≤ k) ∧ Aside0 (Kd.R k32 32 w' w.heap.size (fun _ => True) v179 t178) ∧ Aside0 (Kd.R (Kd.int .i64) 2 w' w.heap.size (fun k_ => some k_ ≠ ((.slice Ao11 t174.length co11) : Value).ownBlock) (.slice Ao10 t171.length co10) t171) ∧ Aside0 (Kd.R (Kd.int .i64) 2 w' w.heap.size (fun k_ => some k_ ≠ ((.slice Ao10 t171.length co10) : Value).ownBlock) (.slice Ao11 t174.length co11) t174) ∧ Aside0 (w'.heap[gb177]? = some (.cells #[.int .i64 t169, .int .i64 t170, (.slice Ao10 t171.length co10), (.slice Ao11 t174.length co11)] 26 (0, 0))) ∧ Aside0 (Below w.heap.size w w'))
    case atStart => exact ⟨(1), (0), (by first | rfl | (simp; done) | (simp [*]; done)), (by first | rfl | (simp; done) | (simp [*]; done)), H', ⟨Nat.le_refl _⟩, ⟨by (with_reducible repeat (first | apply Kd.R_alloc | apply Kd.R_drewN | apply Kd.R_drew)); exact HO180.out⟩, ⟨by (with_reducible repeat (first | apply Kd.R_alloc | apply Kd.R_drewN | apply Kd.R_drew)); exact HO173.out⟩, ⟨by (with_reducible repeat (first | apply Kd.R_alloc | apply Kd.R_drewN | apply Kd.R_drew)); exact HO176.out⟩, ⟨by (with_reducible repeat (first | refine blk_drewN ?_ _ | refine blk_drew ?_ | refine blk_alloc ?_ _)); exact BK177.out⟩, ⟨by repeat (first | (with_reducible first | exact HB.out | apply below_alloc | apply pw_below_drewN | apply below_drew1 | refine below_set ?_ GE177.out) | exact HB.out)⟩⟩
    case round =>
      clear H'
      try clear c1
      try clear p2
      try clear c3
      try clear c4
      try clear hcz9_0
      try clear hcz9_1
      try clear hcz9_2
      try clear hcz9_3
      try clear hfz9_0
      try clear hfz9_1
      try clear hfz9_2
      try clear hfz9_3
      obtain ⟨x8_1, x9_1, rfl, rfl, HA, HK1, HO_6, HO_178002, HO_178003, BK177, HB⟩ := hrel
      cases gk with
      | zero => exact absurd HA.out (by simp [laws_FnNested.l0])
      | succ k1 =>
        have H := HA.out
        clear HA
        simp only [laws_FnNested.l0] at H
        by_cases c13 : x9_1 < (t171.length : Int)
        · rw [if_pos c13] at H
          have c13b0 : decide (x9_1 < (t171.length : Int)) = true := decide_eq_true c13
          clear c13
          by_cases c14 : 0 ≤ x9_1
          · rw [if_pos c14] at H
            have c14b0 : decide (0 ≤ x9_1) = true := decide_eq_true c14
            clear c14
            have H' := Aside0.mk H
            clear H
            have hcz15_0 : wr.cell? ⟨gb177, 0, none⟩ = some (.int .i64 t169) := (blk_cell BK177.out 0).trans rfl
            have hcz15_1 : wr.cell? ⟨gb177, 1, none⟩ = some (.int .i64 t170) := (blk_cell BK177.out 1).trans rfl
            have hcz15_2 : wr.cell? ⟨gb177, 2, none⟩ = some (.slice Ao10 t171.length co10) := (blk_cell BK177.out 2).trans rfl
            have hcz15_3 : wr.cell? ⟨gb177, 3, none⟩ = some (.slice Ao11 t174.length co11) := (blk_cell BK177.out 3).trans rfl
            have hfz15_0 := blk_frozen BK177.out 0
            have hfz15_1 := blk_frozen BK177.out 1
            have hfz15_2 := blk_frozen BK177.out 2
            have hfz15_3 := blk_frozen BK177.out 3
            have p182 : 0 ≤ (x9_1 : Int) := of_decide_eq_true (by first | (with_reducible assumption) | assumption)
            have q182 : x9_1 < (t171.length : Int) := of_decide_eq_true (by first | (with_reducible assumption) | assumption)
            obtain ⟨ad182, e182, hx182_0⟩ := Kd.at_int (Kd.R_reads' HO_178002.out).2.2 x9_1 p182 q182
            cases e182
            replace p182 := eq_true p182
            replace q182 := eq_true q182
            go_wp2
            repeat (go_quiet (fail); try go_wp2)
            go_roundg k1
            case measure => have := HK1.out; omega
            case rel => exact ⟨(wrap64 (x8_1 * (rd t171 x9_1))), (wrap64 (x9_1 + 1)), (by first | rfl | (simp; done) | (simp [*]; done)), (by first | rfl | (simp; done) | (simp [*]; done)), H', ⟨by have := HK1.out; omega⟩, ⟨by (with_reducible repeat (first | apply Kd.R_alloc | apply Kd.R_drewN | apply Kd.R_drew)); exact HO_6.out⟩, ⟨by (with_reducible repeat (first | apply Kd.R_alloc | apply Kd.R_drewN | apply Kd.R_drew)); exact HO_178002.out⟩, ⟨by (with_reducible repeat (first | apply Kd.R_alloc | apply Kd.R_drewN | apply Kd.R_drew)); exact HO_178003.out⟩, ⟨by (with_reducible repeat (first | refine blk_drewN ?_ _ | refine blk_drew ?_ | refine blk_alloc ?_ _)); exact BK177.out⟩, ⟨by repeat (first | (with_reducible first | exact HB.out | apply below_alloc | apply pw_below_drewN | apply below_drew1 | refine below_set ?_ GE177.out) | exact HB.out)⟩⟩
          · rw [if_neg c14] at H
            exact absurd H (by simp)
        · rw [if_neg c13] at H
          have c13b0 : decide (x9_1 < (t171.length : Int)) = false := decide_eq_false c13
          clear c13
          have HC16 := Aside0.mk H
          clear H
          have hcz17_0 : wr.cell? ⟨gb177, 0, none⟩ = some (.int .i64 t169) := (blk_cell BK177.out 0).trans rfl
          have hcz17_1 : wr.cell? ⟨gb177, 1, none⟩ = some (.int .i64 t170) := (blk_cell BK177.out 1).trans rfl
          have hcz17_2 : wr.cell? ⟨gb177, 2, none⟩ = some (.slice Ao10 t171.length co10) := (blk_cell BK177.out 2).trans rfl
          have hcz17_3 : wr.cell? ⟨gb177, 3, none⟩ = some (.slice Ao11 t174.length co11) := (blk_cell BK177.out 3).trans rfl
          have hfz17_0 := blk_frozen BK177.out 0
          have hfz17_1 := blk_frozen BK177.out 1
          have hfz17_2 := blk_frozen BK177.out 2
          have hfz17_3 := blk_frozen BK177.out 3
          go_upto_region 10 with (fail)
          repeat (go_quiet (fail); go_upto_region 10 with (fail))
          go_cut [54] (fun v54 wc => ∃ (kq : Nat) (x54_15 : Bool), v54 = .bool x54_15 ∧ Aside0 (laws_FnNested.j1 kq t178 x54_15 t169 t170 t171 t174 = some r) ∧ Aside0 (kq ≤ k1) ∧ Aside0 (Kd.R k32 32 wc w.heap.size (fun _ => True) v179 t178) ∧ Aside0 (Kd.R (Kd.int .i64) 2 wc w.heap.size (fun k_ => some k_ ≠ ((.slice Ao11 t174.length co11) : Value).ownBlock) (.slice Ao10 t171.length co10) t171) ∧ Aside0 (Kd.R (Kd.int .i64) 2 wc w.heap.size (fun k_ => some k_ ≠ ((.slice Ao10 t171.length co10) : Value).ownBlock) (.slice Ao11 t174.length co11) t174) ∧ Aside0 (wc.heap[gb177]? = some (.cells #[.int .i64 t169, .int .i64 t170, (.slice Ao10 t171.length co10), (.slice Ao11 t174.length co11)] 26 (0, 0))) ∧ Aside0 (Below w.heap.size w wc))
          case first =>
            have H := HC16.out
            clear HC16
            by_cases c18 : t181 = true
            · subst c18
              have H1 : (if (t178.length : Int) = x8_1 then (if 0 < (t178.length : Int) then (laws_FnNested.j1 k1 t178 (((rd_T32 t178 0).f1) != t170) t169 t170 t171 t174) else (none)) else (laws_FnNested.j1 k1 t178 true t169 t170 t171 t174)) = some r := by rw [if_pos rfl] at H; exact H
              clear H
              have H := H1
              clear H1
              by_cases c19 : (t178.length : Int) = x8_1
              · rw [if_pos c19] at H
                have c19b0 : ((t178.length : Int) == x8_1) = true := beq_iff_eq.mpr c19
                have c19b1 : ((t178.length : Int) != x8_1) = false := bne_eq_false_iff_eq.mpr c19
                clear c19
                (first | rw [c19b0] | (simp only [i64_w, i32_w]; rw [c19b0]) | skip)
                by_cases c20 : 0 < (t178.length : Int)
                · rw [if_pos c20] at H
                  have c20b0 : decide (0 < (t178.length : Int)) = true := decide_eq_true c20
                  have c20b1 : decide (0 < t178.length) = true := decide_eq_true (by omega)
                  clear c20
                  have H' := Aside0.mk H
                  clear H
                  obtain ⟨Ao21, co21, eo21⟩ := Kd.R_slice HO_6.out
                  subst eo21
                  have p183 : 0 ≤ (0 : Int) := (by omega)
                  have q183 : 0 < (t178.length : Int) := of_decide_eq_true (by first | (with_reducible assumption) | assumption)
                  obtain ⟨ad183, e183, hx183_0, hx183_1⟩ := at_T32 (Kd.R_reads' HO_6.out).2.2 0 p183 q183
                  cases e183
                  have qi183 : (0 < t178.length) = True := eq_true (by omega)
                  (try rw [show ((0 : Int)).toNat = 0 from rfl] at hx183_0)
                  (try rw [show 0 * 2 = 0 from rfl] at hx183_0)
                  (try rw [Addr.add_zero'] at hx183_0)
                  (try rw [show ((0 : Int)).toNat = 0 from rfl] at hx183_1)
                  (try rw [show 0 * 2 = 0 from rfl] at hx183_1)
                  (try rw [Addr.add_zero'] at hx183_1)
                  replace p183 := eq_true p183
                  replace q183 := eq_true q183
                  have hcz22_0 : wr.cell? ⟨gb177, 0, none⟩ = some (.int .i64 t169) := (blk_cell BK177.out 0).trans rfl
                  have hcz22_1 : wr.cell? ⟨gb177, 1, none⟩ = some (.int .i64 t170) := (blk_cell BK177.out 1).trans rfl
                  have hcz22_2 : wr.cell? ⟨gb177, 2, none⟩ = some (.slice Ao10 t171.length co10) := (blk_cell BK177.out 2).trans rfl
                  have hcz22_3 : wr.cell? ⟨gb177, 3, none⟩ = some (.slice Ao11 t174.length co11) := (blk_cell BK177.out 3).trans rfl
                  have hfz22_0 := blk_frozen BK177.out 0
                  have hfz22_1 := blk_frozen BK177.out 1
                  have hfz22_2 := blk_frozen BK177.out 2
                  have hfz22_3 := blk_frozen BK177.out 3
                  go_wp2
                  repeat (go_quiet (fail); try go_wp2)
                  go_meet
                  case rel => exact ⟨_, ((((rd_T32 t178 0).f1) != t170)), (by first | rfl | (simp; done) | (simp [*]; done)), H', ⟨by have := HK1.out; first | omega | exact Nat.le_refl _⟩, ⟨by (with_reducible repeat (first | apply Kd.R_alloc | apply Kd.R_drewN | apply Kd.R_drew)); exact HO_6.out⟩, ⟨by (with_reducible repeat (first | apply Kd.R_alloc | apply Kd.R_drewN | apply Kd.R_drew)); exact HO_178002.out⟩, ⟨by (with_reducible repeat (first | apply Kd.R_alloc | apply Kd.R_drewN | apply Kd.R_drew)); exact HO_178003.out⟩, ⟨by (with_reducible repeat (first | refine blk_drewN ?_ _ | refine blk_drew ?_ | refine blk_alloc ?_ _)); exact BK177.out⟩, ⟨by repeat (first | (with_reducible first | exact HB.out | apply below_alloc | apply pw_below_drewN | apply below_drew1 | refine below_set ?_ GE177.out) | exact HB.out)⟩⟩
                · rw [if_neg c20] at H
                  exact absurd H (by simp)
              · rw [if_neg c19] at H
                have c19b0 : ((t178.length : Int) == x8_1) = false := beq_eq_false_iff_ne.mpr c19
                have c19b1 : ((t178.length : Int) != x8_1) = true := bne_iff_ne.mpr c19
                (first | rw [c19b0] | (simp only [i64_w, i32_w]; rw [c19b0]) | skip)
                have H' := Aside0.mk H
                clear H
                obtain ⟨Ao23, co23, eo23⟩ := Kd.R_slice HO_6.out
                subst eo23
                go_wp2
                repeat (go_quiet (fail); try go_wp2)
                go_meet
                case rel => exact ⟨_, (true), (by first | rfl | (simp; done) | (simp [*]; done)), H', ⟨by have := HK1.out; first | omega | exact Nat.le_refl _⟩, ⟨by (with_reducible repeat (first | apply Kd.R_alloc | apply Kd.R_drewN | apply Kd.R_drew)); exact HO_6.out⟩, ⟨by (with_reducible repeat (first | apply Kd.R_alloc | apply Kd.R_drewN | apply Kd.R_drew)); exact HO_178002.out⟩, ⟨by (with_reducible repeat (first | apply Kd.R_alloc | apply Kd.R_drewN | apply Kd.R_drew)); exact HO_178003.out⟩, ⟨by (with_reducible repeat (first | refine blk_drewN ?_ _ | refine blk_drew ?_ | refine blk_alloc ?_ _)); exact BK177.out⟩, ⟨by repeat (first | (with_reducible first | exact HB.out | apply below_alloc | apply pw_below_drewN | apply below_drew1 | refine below_set ?_ GE177.out) | exact HB.out)⟩⟩
            · replace c18 := Bool.eq_false_iff.mpr c18
              subst c18
              have H1 : (laws_FnNested.j1 k1 t178 true t169 t170 t171 t174) = some r := by rw [if_neg (show ¬ (false = true) by decide)] at H; exact H
              clear H
              have H := H1
              clear H1
              have H' := Aside0.mk H
              clear H
              go_wp2
              repeat (go_quiet (fail); try go_wp2)
              go_meet
              case rel => exact ⟨_, (true), (by first | rfl | (simp; done) | (simp [*]; done)), H', ⟨by have := HK1.out; first | omega | exact Nat.le_refl _⟩, ⟨by (with_reducible repeat (first | apply Kd.R_alloc | apply Kd.R_drewN | apply Kd.R_drew)); exact HO_6.out⟩, ⟨by (with_reducible repeat (first | apply Kd.R_alloc | apply Kd.R_drewN | apply Kd.R_drew)); exact HO_178002.out⟩, ⟨by (with_reducible repeat (first | apply Kd.R_alloc | apply Kd.R_drewN | apply Kd.R_drew)); exact HO_178003.out⟩, ⟨by (with_reducible repeat (first | refine blk_drewN ?_ _ | refine blk_drew ?_ | refine blk_alloc ?_ _)); exact BK177.out⟩, ⟨by repeat (first | (with_reducible first | exact HB.out | apply below_alloc | apply pw_below_drewN | apply below_drew1 | refine below_set ?_ GE177.out) | exact HB.out)⟩⟩
          case rest =>
            clear HC16
            try clear c1
            try clear p1
            try clear q1
            try clear hx1
            try clear qi1
            try clear c2
            try clear p2
            try clear c3
            try clear c4
            try clear p6
            try clear c13
            try clear c13b0
            try clear c14
            try clear c14b0
            try clear c18
            try clear p18
            try clear q18
            try clear hx18
            try clear qi18
            try clear c19
            try clear c19b0
            try clear c19b1
            try clear c20
            try clear c20b0
            try clear c20b1
            try clear hcz15_0
            try clear hcz15_1
            try clear hcz15_2
            try clear hcz15_3
            try clear hcz17_0
            try clear hcz17_1
            try clear hcz17_2
            try clear hcz17_3
            try clear hcz22_0
            try clear hcz22_1
            try clear hcz22_2
            try clear hcz22_3
            try clear hcz9_0
            try clear hcz9_1
            try clear hcz9_2
            try clear hcz9_3
            try clear hfz15_0
            try clear hfz15_1
            try clear hfz15_2
            try clear hfz15_3
            try clear hfz17_0
            try clear hfz17_1
            try clear hfz17_2
            try clear hfz17_3
            try clear hfz22_0
            try clear hfz22_1
            try clear hfz22_2
            try clear hfz22_3
            try clear hfz9_0
            try clear hfz9_1
            try clear hfz9_2
            try clear hfz9_3
            try clear hx182_0
            try clear hx183_0
            try clear hx183_1
            try clear p182
            try clear p183
            try clear p2
            try clear q182
            try clear q183
            obtain ⟨kq, x54_15, rfl, HA, HJ15, HO_6, HO_178002, HO_178003, BK177, HB⟩ := hcut
            cases kq with
            | zero => exact absurd HA.out (by simp [laws_FnNested.j1])
            | succ kj15 =>
              have H := HA.out
              clear HA
              simp only [laws_FnNested.j1] at H
              by_cases c24 : x54_15 = true
              · subst c24
                have H1 : (some false) = some r := by rw [if_pos rfl] at H; exact H
                clear H
                have H := H1
                clear H1
                obtain rfl := Option.some.inj H
                go_wp2
                repeat (go_quiet (fail); try go_wp2)
                go_ret
                exact ⟨by first | rfl | (simp [errW_none, errW_some] <;> rfl) | (simp [*, errW_none, errW_some] <;> rfl), by repeat (first | (with_reducible first | exact HB.out | apply below_alloc | apply pw_below_drewN | apply below_drew1 | refine below_set ?_ GE177.out) | exact HB.out)⟩
              · replace c24 := Bool.eq_false_iff.mpr c24
                subst c24
                have H1 : (if 0 ≤ (t171.length : Int) then (if ((t171.length : Int) : Int).toNat ≤ 35184372088832 then (laws_FnNested.l1 kj15 t178 (List.replicate ((t171.length : Int) : Int).toNat 0) 1 t169 t170 t171 t174) else (none)) else (none)) = some r := by rw [if_neg (show ¬ (false = true) by decide)] at H; exact H
                clear H
                have H := H1
                clear H1
                by_cases c25 : 0 ≤ (t171.length : Int)
                · rw [if_pos c25] at H
                  have c25b0 := eq_true c25
                  have c25b1 : decide (0 ≤ (t171.length : Int)) = true := decide_eq_true c25
                  clear c25
                  by_cases c26 : ((t171.length : Int) : Int).toNat ≤ 35184372088832
                  · rw [if_pos c26] at H
                    have c26b0 := eq_true c26
                    have c26b1 : decide (((t171.length : Int) : Int).toNat ≤ 35184372088832) = true := decide_eq_true c26
                    clear c26
                    obtain ⟨y184, hy184⟩ : ∃ y_ : List Int, y_ = (List.replicate ((t171.length : Int) : Int).toNat 0) := ⟨_, rfl⟩
                    replace H : (laws_FnNested.l1 kj15 t178 y184 1 t169 t170 t171 t174) = some r := by first | (rw [hy184]; with_reducible exact H) | (have H2_ := (Option.bind_some _ _).symm.trans H; rw [hy184]; with_reducible exact H2_) | (have H2_ := (Option.bind_some _ _).symm.trans H; with_reducible exact H2_) | with_reducible exact H | (rw [hy184]; exact H) | exact H
                    have Ny184 := Aside0.mk hy184
                    clear hy184
                    have H' := Aside0.mk H
                    clear H
                    have hcz27_0 : wc.cell? ⟨gb177, 0, none⟩ = some (.int .i64 t169) := (blk_cell BK177.out 0).trans rfl
                    have hcz27_1 : wc.cell? ⟨gb177, 1, none⟩ = some (.int .i64 t170) := (blk_cell BK177.out 1).trans rfl
                    have hcz27_2 : wc.cell? ⟨gb177, 2, none⟩ = some (.slice Ao10 t171.length co10) := (blk_cell BK177.out 2).trans rfl
                    have hcz27_3 : wc.cell? ⟨gb177, 3, none⟩ = some (.slice Ao11 t174.length co11) := (blk_cell BK177.out 3).trans rfl
                    have hfz27_0 := blk_frozen BK177.out 0
                    have hfz27_1 := blk_frozen BK177.out 1
                    have hfz27_2 := blk_frozen BK177.out 2
                    have hfz27_3 := blk_frozen BK177.out 3
                    go_wp2_with (first | ((with_reducible refine gate_dst (N := 58) rfl ?_); (try (refine gate_guard (by rfl) ?_; dsimp only)); refine Kd.R_make (Kd.int .i64) _ 2 rfl (N := 58) rfl 24 _ _ rfl (t171.length : Int) rfl rfl Try.underlying24 (.int .i64 0) 8 info2 rfl (by decide) (by omega) 0 (ok := fun _ => True) (okp := fun _ => True) rfl (fun _ hk => hk) trivial (of_decide_eq_true (by first | (with_reducible assumption) | assumption)) (Nat.le_trans (Nat.mul_le_mul_right _ (of_decide_eq_true (by first | (with_reducible assumption) | assumption) : (t171.length : Int).toNat ≤ 35184372088832)) (by omega)) (Below.refl _ _) (Nat.le_refl _) ?_; intro v185 w28 ho29 hb hg_ hnew_; clear hg_ hnew_; (first | rw [← Ny184.out] at ho29 | (simp only [Int.reduceToNat] at ho29; rw [← Ny184.out] at ho29)); have n0_ := Aside0.mk (Kd.R_below (by (with_reducible repeat (first | apply Kd.R_alloc | apply Kd.R_drewN | apply Kd.R_drew)); exact HO_6.out) hb); have n1_ := Aside0.mk (Kd.R_elder' (by (with_reducible repeat (first | apply Kd.R_alloc | apply Kd.R_drewN | apply Kd.R_drew)); exact HO_178002.out) (Kd.R_base ho29) hb); have n2_ := Aside0.mk (Kd.R_elder' (by (with_reducible repeat (first | apply Kd.R_alloc | apply Kd.R_drewN | apply Kd.R_drew)); exact HO_178003.out) (Kd.R_base ho29) hb); have n3_ := Aside0.mk (Kd.R_lower (Kd.R_new' (Kd.R_new' ho29 (Kd.R_lt (by (with_reducible repeat (first | apply Kd.R_alloc | apply Kd.R_drewN | apply Kd.R_drew)); exact HO_178002.out))) (Kd.R_lt (by (with_reducible repeat (first | apply Kd.R_alloc | apply Kd.R_drewN | apply Kd.R_drew)); exact HO_178003.out))) (below_size (by repeat (first | (with_reducible first | exact HB.out | apply below_alloc | apply pw_below_drewN | apply below_drew1 | refine below_set ?_ GE177.out) | exact HB.out)))); have n4_ := Aside0.mk (blk_below (g := gb177) (o := .cells #[.int .i64 t169, .int .i64 t170, .slice Ao10 t171.length co10, .slice Ao11 t174.length co11] 26 (0, 0)) (by (with_reducible repeat (first | refine blk_drewN ?_ _ | refine blk_drew ?_ | refine blk_alloc ?_ _)); exact BK177.out) hb); have n5_ := Aside0.mk (below_step (by repeat (first | (with_reducible first | exact HB.out | apply below_alloc | apply pw_below_drewN | apply below_drew1 | refine below_set ?_ GE177.out) | exact HB.out)) hb); clear HO_6; clear HO_178002; clear HO_178003; clear BK177; clear HB; have HO_6 := n0_; have HO_178002 := n1_; have HO_178003 := n2_; have HO186 := n3_; have BK177 := n4_; have HB := n5_; clear n0_ n1_ n2_ n3_ n4_ n5_; clear hb ho29))
                    repeat (go_quiet (first | ((with_reducible refine gate_dst (N := 58) rfl ?_); (try (refine gate_guard (by rfl) ?_; dsimp only)); refine Kd.R_make (Kd.int .i64) _ 2 rfl (N := 58) rfl 24 _ _ rfl (t171.length : Int) rfl rfl Try.underlying24 (.int .i64 0) 8 info2 rfl (by decide) (by omega) 0 (ok := fun _ => True) (okp := fun _ => True) rfl (fun _ hk => hk) trivial (of_decide_eq_true (by first | (with_reducible assumption) | assumption)) (Nat.le_trans (Nat.mul_le_mul_right _ (of_decide_eq_true (by first | (with_reducible assumption) | assumption) : (t171.length : Int).toNat ≤ 35184372088832)) (by omega)) (Below.refl _ _) (Nat.le_refl _) ?_; intro v185 w28 ho29 hb hg_ hnew_; clear hg_ hnew_; (first | rw [← Ny184.out] at ho29 | (simp only [Int.reduceToNat] at ho29; rw [← Ny184.out] at ho29)); have n0_ := Aside0.mk (Kd.R_below (by (with_reducible repeat (first | apply Kd.R_alloc | apply Kd.R_drewN | apply Kd.R_drew)); exact HO_6.out) hb); have n1_ := Aside0.mk (Kd.R_elder' (by (with_reducible repeat (first | apply Kd.R_alloc | apply Kd.R_drewN | apply Kd.R_drew)); exact HO_178002.out) (Kd.R_base ho29) hb); have n2_ := Aside0.mk (Kd.R_elder' (by (with_reducible repeat (first | apply Kd.R_alloc | apply Kd.R_drewN | apply Kd.R_drew)); exact HO_178003.out) (Kd.R_base ho29) hb); have n3_ := Aside0.mk (Kd.R_lower (Kd.R_new' (Kd.R_new' ho29 (Kd.R_lt (by (with_reducible repeat (first | apply Kd.R_alloc | apply Kd.R_drewN | apply Kd.R_drew)); exact HO_178002.out))) (Kd.R_lt (by (with_reducible repeat (first | apply Kd.R_alloc | apply Kd.R_drewN | apply Kd.R_drew)); exact HO_178003.out))) (below_size (by repeat (first | (with_reducible first | exact HB.out | apply below_alloc | apply pw_below_drewN | apply below_drew1 | refine below_set ?_ GE177.out) | exact HB.out)))); have n4_ := Aside0.mk (blk_below (g := gb177) (o := .cells #[.int .i64 t169, .int .i64 t170, .slice Ao10 t171.length co10, .slice Ao11 t174.length co11] 26 (0, 0)) (by (with_reducible repeat (first | refine blk_drewN ?_ _ | refine blk_drew ?_ | refine blk_alloc ?_ _)); exact BK177.out) hb); have n5_ := Aside0.mk (below_step (by repeat (first | (with_reducible first | exact HB.out | apply below_alloc | apply pw_below_drewN | apply below_drew1 | refine below_set ?_ GE177.out) | exact HB.out)) hb); clear HO_6; clear HO_178002; clear HO_178003; clear BK177; clear HB; have HO_6 := n0_; have HO_178002 := n1_; have HO_178003 := n2_; have HO186 := n3_; have BK177 := n4_; have HB := n5_; clear n0_ n1_ n2_ n3_ n4_ n5_; clear hb ho29)); try go_wp2_with (first | ((with_reducible refine gate_dst (N := 58) rfl ?_); (try (refine gate_guard (by rfl) ?_; dsimp only)); refine Kd.R_make (Kd.int .i64) _ 2 rfl (N := 58) rfl 24 _ _ rfl (t171.length : Int) rfl rfl Try.underlying24 (.int .i64 0) 8 info2 rfl (by decide) (by omega) 0 (ok := fun _ => True) (okp := fun _ => True) rfl (fun _ hk => hk) trivial (of_decide_eq_true (by first | (with_reducible assumption) | assumption)) (Nat.le_trans (Nat.mul_le_mul_right _ (of_decide_eq_true (by first | (with_reducible assumption) | assumption) : (t171.length : Int).toNat ≤ 35184372088832)) (by omega)) (Below.refl _ _) (Nat.le_refl _) ?_; intro v185 w28 ho29 hb hg_ hnew_; clear hg_ hnew_; (first | rw [← Ny184.out] at ho29 | (simp only [Int.reduceToNat] at ho29; rw [← Ny184.out] at ho29)); have n0_ := Aside0.mk (Kd.R_below (by (with_reducible repeat (first | apply Kd.R_alloc | apply Kd.R_drewN | apply Kd.R_drew)); exact HO_6.out) hb); have n1_ := Aside0.mk (Kd.R_elder' (by (with_reducible repeat (first | apply Kd.R_alloc | apply Kd.R_drewN | apply Kd.R_drew)); exact HO_178002.out) (Kd.R_base ho29) hb); have n2_ := Aside0.mk (Kd.R_elder' (by (with_reducible repeat (first | apply Kd.R_alloc | apply Kd.R_drewN | apply Kd.R_drew)); exact HO_178003.out) (Kd.R_base ho29) hb); have n3_ := Aside0.mk (Kd.R_lower (Kd.R_new' (Kd.R_new' ho29 (Kd.R_lt (by (with_reducible repeat (first | apply Kd.R_alloc | apply Kd.R_drewN | apply Kd.R_drew)); exact HO_178002.out))) (Kd.R_lt (by (with_reducible repeat (first | apply Kd.R_alloc | apply Kd.R_drewN | apply Kd.R_drew)); exact HO_178003.out))) (below_size (by repeat (first | (with_reducible first | exact HB.out | apply below_alloc | apply pw_below_drewN | apply below_drew1 | refine below_set ?_ GE177.out) | exact HB.out)))); have n4_ := Aside0.mk (blk_below (g := gb177) (o := .cells #[.int .i64 t169, .int .i64 t170, .slice Ao10 t171.length co10, .slice Ao11 t174.length co11] 26 (0, 0)) (by (with_reducible repeat (first | refine blk_drewN ?_ _ | refine blk_drew ?_ | refine blk_alloc ?_ _)); exact BK177.out) hb); have n5_ := Aside0.mk (below_step (by repeat (first | (with_reducible first | exact HB.out | apply below_alloc | apply pw_below_drewN | apply below_drew1 | refine below_set ?_ GE177.out) | exact HB.out)) hb); clear HO_6; clear HO_178002; clear HO_178003; clear BK177; clear HB; have HO_6 := n0_; have HO_178002 := n1_; have HO_178003 := n2_; have HO186 := n3_; have BK177 := n4_; have HB := n5_; clear n0_ n1_ n2_ n3_ n4_ n5_; clear hb ho29)))
                    go_loopg [11] kj15 (fun kq v11 w' => ∃ (x10_3 : List Int) (x11_3 : Int), v11 = .int .i64 x11_3 ∧ Aside0 (laws_FnNested.l1 kq t178 x10_3 x11_3 t169 t170 t171 t174 = some r) ∧ Aside0 (kq ≤ kj15) ∧ Aside0 (Kd.R k32 32 w' w.heap.size (fun _ => True) v179 t178) ∧ Aside0 (Kd.R (Kd.int .i64) 2 w' w.heap.size (fun k_ => some k_ ≠ ((.slice Ao10 t171.length co10) : Value).ownBlock ∧ some k_ ≠ ((.slice Ao11 t174.length co11) : Value).ownBlock) v185 x10_3) ∧ Aside0 (Kd.R (Kd.int .i64) 2 w' w.heap.size (fun k_ => some k_ ≠ (v185 : Value).ownBlock ∧ some k_ ≠ ((.slice Ao11 t174.length co11) : Value).ownBlock) (.slice Ao10 t171.length co10) t171) ∧ Aside0 (Kd.R (Kd.int .i64) 2 w' w.heap.size (fun k_ => some k_ ≠ (v185 : Value).ownBlock ∧ some k_ ≠ ((.slice Ao10 t171.length co10) : Value).ownBlock) (.slice Ao11 t174.length co11) t174) ∧ Aside0 (w'.heap[gb177]? = some (.cells #[.int .i64 t169, .int .i64 t170, (.slice Ao10 t171.length co10), (.slice Ao11 t174.length co11)] 26 (0, 0))) ∧ Aside0 (Below w.heap.size w w'))
                    case atStart => exact ⟨(y184), (1), (by first | rfl | (simp; done) | (simp [*]; done)), H', ⟨Nat.le_refl _⟩, ⟨by (with_reducible repeat (first | apply Kd.R_alloc | apply Kd.R_drewN | apply Kd.R_drew)); exact HO_6.out⟩, ⟨by (with_reducible repeat (first | apply Kd.R_alloc | apply Kd.R_drewN | apply Kd.R_drew)); exact Kd.R_mono HO186.out (fun _ hk => ⟨hk.1.2, hk.2⟩)⟩, ⟨by (with_reducible repeat (first | apply Kd.R_alloc | apply Kd.R_drewN | apply Kd.R_drew)); exact Kd.R_mono HO_178002.out (fun _ hk => ⟨hk.2, hk.1⟩)⟩, ⟨by (with_reducible repeat (first | apply Kd.R_alloc | apply Kd.R_drewN | apply Kd.R_drew)); exact Kd.R_mono HO_178003.out (fun _ hk => ⟨hk.2, hk.1⟩)⟩, ⟨by (with_reducible repeat (first | refine blk_drewN ?_ _ | refine blk_drew ?_ | refine blk_alloc ?_ _)); exact BK177.out⟩, ⟨by repeat (first | (with_reducible first | exact HB.out | apply below_alloc | apply pw_below_drewN | apply below_drew1 | refine below_set ?_ GE177.out) | exact HB.out)⟩⟩
                    case round =>
                      clear H'
                      try clear c1
                      try clear p1
                      try clear q1
                      try clear hx1
                      try clear qi1
                      try clear c2
                      try clear p2
                      try clear c3
                      try clear c4
                      try clear p6
                      try clear c13
                      try clear c13b0
                      try clear c14
                      try clear c14b0
                      try clear c18
                      try clear p18
                      try clear q18
                      try clear hx18
                      try clear qi18
                      try clear c19
                      try clear c19b0
                      try clear c19b1
                      try clear c20
                      try clear c20b0
                      try clear c20b1
                      try clear c24
                      try clear c25
                      try clear c25b0
                      try clear c25b1
                      try clear c26
                      try clear c26b0
                      try clear c26b1
                      try clear hcz15_0
                      try clear hcz15_1
                      try clear hcz15_2
                      try clear hcz15_3
                      try clear hcz17_0
                      try clear hcz17_1
                      try clear hcz17_2
                      try clear hcz17_3
                      try clear hcz22_0
                      try clear hcz22_1
                      try clear hcz22_2
                      try clear hcz22_3
                      try clear hcz27_0
                      try clear hcz27_1
                      try clear hcz27_2
                      try clear hcz27_3
                      try clear hcz9_0
                      try clear hcz9_1
                      try clear hcz9_2
                      try clear hcz9_3
                      try clear hfz15_0
                      try clear hfz15_1
                      try clear hfz15_2
                      try clear hfz15_3
                      try clear hfz17_0
                      try clear hfz17_1
                      try clear hfz17_2
                      try clear hfz17_3
                      try clear hfz22_0
                      try clear hfz22_1
                      try clear hfz22_2
                      try clear hfz22_3
                      try clear hfz27_0
                      try clear hfz27_1
                      try clear hfz27_2
                      try clear hfz27_3
                      try clear hfz9_0
                      try clear hfz9_1
                      try clear hfz9_2
                      try clear hfz9_3
                      try clear hx182_0
                      try clear hx183_0
                      try clear hx183_1
                      try clear p1
                      try clear p18
                      try clear p182
                      try clear p183
                      try clear p2
                      try clear p6
                      try clear q1
                      try clear q18
                      try clear q182
                      try clear q183
                      obtain ⟨x10_3, x11_3, rfl, HA, HK3, HO_6, HO_10, HO_178002, HO_178003, BK177, HB⟩ := hrel
                      cases gk with
                      | zero => exact absurd HA.out (by simp [laws_FnNested.l1])
                      | succ k3 =>
                        have H := HA.out
                        clear HA
                        simp only [laws_FnNested.l1] at H
                        by_cases c30 : x11_3 < (t178.length : Int)
                        · rw [if_pos c30] at H
                          have c30b0 : decide (x11_3 < (t178.length : Int)) = true := decide_eq_true c30
                          clear c30
                          have HC31 := Aside0.mk H
                          clear H
                          obtain ⟨Ao32, co32, eo32⟩ := Kd.R_slice HO_6.out
                          subst eo32
                          obtain ⟨Ao33, co33, eo33⟩ := Kd.R_slice HO_10.out
                          subst eo33
                          go_upto_block 4 with (fail)
                          repeat (go_quiet (fail); go_upto_block 4 with (fail))
                          go_cut [12, 13] (fun v12 v13 wc => ∃ (kq : Nat) (x10_30 : List Int) (x12_30 : Int) (x13_30 : Int), v12 = .int .i64 x12_30 ∧ v13 = .int .i64 x13_30 ∧ Aside0 (laws_FnNested.j4 kq t178 x10_30 x11_3 x12_30 x13_30 t169 t170 t171 t174 = some r) ∧ Aside0 (kq ≤ k3) ∧ Aside0 (Kd.R k32 32 wc w.heap.size (fun _ => True) (.slice Ao32 t178.length co32) t178) ∧ Aside0 (Kd.R (Kd.int .i64) 2 wc w.heap.size (fun k_ => some k_ ≠ ((.slice Ao10 t171.length co10) : Value).ownBlock ∧ some k_ ≠ ((.slice Ao11 t174.length co11) : Value).ownBlock) (.slice Ao33 x10_3.length co33) x10_30) ∧ Aside0 (Kd.R (Kd.int .i64) 2 wc w.heap.size (fun k_ => some k_ ≠ ((.slice Ao33 x10_3.length co33) : Value).ownBlock ∧ some k_ ≠ ((.slice Ao11 t174.length co11) : Value).ownBlock) (.slice Ao10 t171.length co10) t171) ∧ Aside0 (Kd.R (Kd.int .i64) 2 wc w.heap.size (fun k_ => some k_ ≠ ((.slice Ao33 x10_3.length co33) : Value).ownBlock ∧ some k_ ≠ ((.slice Ao10 t171.length co10) : Value).ownBlock) (.slice Ao11 t174.length co11) t174) ∧ Aside0 (wc.heap[gb177]? = some (.cells #[.int .i64 t169, .int .i64 t170, (.slice Ao10 t171.length co10), (.slice Ao11 t174.length co11)] 26 (0, 0))) ∧ Aside0 (Below w.heap.size w wc))
                          case first =>
                            have H := HC31.out
                            clear HC31
                            have H' := Aside0.mk H
                            clear H
                            go_wp2
                            repeat (go_quiet (fail); try go_wp2)
                            go_loopg [12, 13] k3 (fun kq v12 v13 w' => ∃ (x10_4 : List Int) (x12_4 : Int) (x13_4 : Int), v12 = .int .i64 x12_4 ∧ v13 = .int .i64 x13_4 ∧ Aside0 (laws_FnNested.l2 kq t178 x10_4 x11_3 x12_4 x13_4 t169 t170 t171 t174 = some r) ∧ Aside0 (kq ≤ k3) ∧ Aside0 (Kd.R k32 32 w' w.heap.size (fun _ => True) (.slice Ao32 t178.length co32) t178) ∧ Aside0 (Kd.R (Kd.int .i64) 2 w' w.heap.size (fun k_ => some k_ ≠ ((.slice Ao10 t171.length co10) : Value).ownBlock ∧ some k_ ≠ ((.slice Ao11 t174.length co11) : Value).ownBlock) (.slice Ao33 x10_3.length co33) x10_4) ∧ Aside0 (Kd.R (Kd.int .i64) 2 w' w.heap.size (fun k_ => some k_ ≠ ((.slice Ao33 x10_3.length co33) : Value).ownBlock ∧ some k_ ≠ ((.slice Ao11 t174.length co11) : Value).ownBlock) (.slice Ao10 t171.length co10) t171) ∧ Aside0 (Kd.R (Kd.int .i64) 2 w' w.heap.size (fun k_ => some k_ ≠ ((.slice Ao33 x10_3.length co33) : Value).ownBlock ∧ some k_ ≠ ((.slice Ao10 t171.length co10) : Value).ownBlock) (.slice Ao11 t174.length co11) t174) ∧ Aside0 (w'.heap[gb177]? = some (.cells #[.int .i64 t169, .int .i64 t170, (.slice Ao10 t171.length co10), (.slice Ao11 t174.length co11)] 26 (0, 0))) ∧ Aside0 (Below w.heap.size w w'))
                            case atStart => exact ⟨(x10_3), (wrap64 ((x10_3.length : Int) - 1)), (0), (by first | rfl | (simp; done) | (simp [*]; done)), (by first | rfl | (simp; done) | (simp [*]; done)), H', ⟨Nat.le_refl _⟩, ⟨by (with_reducible repeat (first | apply Kd.R_alloc | apply Kd.R_drewN | apply Kd.R_drew)); exact HO_6.out⟩, ⟨by (with_reducible repeat (first | apply Kd.R_alloc | apply Kd.R_drewN | apply Kd.R_drew)); exact HO_10.out⟩, ⟨by (with_reducible repeat (first | apply Kd.R_alloc | apply Kd.R_drewN | apply Kd.R_drew)); exact HO_178002.out⟩, ⟨by (with_reducible repeat (first | apply Kd.R_alloc | apply Kd.R_drewN | apply Kd.R_drew)); exact HO_178003.out⟩, ⟨by (with_reducible repeat (first | refine blk_drewN ?_ _ | refine blk_drew ?_ | refine blk_alloc ?_ _)); exact BK177.out⟩, ⟨by repeat (first | (with_reducible first | exact HB.out | apply below_alloc | apply pw_below_drewN | apply below_drew1 | refine below_set ?_ GE177.out) | exact HB.out)⟩⟩
                            case round =>
                              clear H'
                              try clear c1
                              try clear p1
                              try clear q1
                              try clear hx1
                              try clear qi1
                              try clear c2
                              try clear p2
                              try clear c3
                              try clear c4
                              try clear p6
                              try clear c13
                              try clear c13b0
                              try clear c14
                              try clear c14b0
                              try clear c18
                              try clear p18
                              try clear q18
                              try clear hx18
                              try clear qi18
                              try clear c19
                              try clear c19b0
                              try clear c19b1
                              try clear c20
                              try clear c20b0
                              try clear c20b1
                              try clear c24
                              try clear c25
                              try clear c25b0
                              try clear c25b1
                              try clear c26
                              try clear c26b0
                              try clear c26b1
                              try clear c30
                              try clear c30b0
                              try clear hcz15_0
                              try clear hcz15_1
                              try clear hcz15_2
                              try clear hcz15_3
                              try clear hcz17_0
                              try clear hcz17_1
                              try clear hcz17_2
                              try clear hcz17_3
                              try clear hcz22_0
                              try clear hcz22_1
                              try clear hcz22_2
                              try clear hcz22_3
                              try clear hcz27_0
                              try clear hcz27_1
                              try clear hcz27_2
                              try clear hcz27_3
                              try clear hcz9_0
                              try clear hcz9_1
                              try clear hcz9_2
                              try clear hcz9_3
                              try clear hfz15_0
                              try clear hfz15_1
                              try clear hfz15_2
                              try clear hfz15_3
                              try clear hfz17_0
                              try clear hfz17_1
                              try clear hfz17_2
                              try clear hfz17_3
                              try clear hfz22_0
                              try clear hfz22_1
                              try clear hfz22_2
                              try clear hfz22_3
                              try clear hfz27_0
                              try clear hfz27_1
                              try clear hfz27_2
                              try clear hfz27_3
                              try clear hfz9_0
                              try clear hfz9_1
                              try clear hfz9_2
                              try clear hfz9_3
                              try clear hx182_0
                              try clear hx183_0
                              try clear hx183_1
                              try clear p1
                              try clear p18
                              try clear p182
                              try clear p183
                              try clear p2
                              try clear p6
                              try clear q1
                              try clear q18
                              try clear q182
                              try clear q183
                              obtain ⟨x10_4, x12_4, x13_4, rfl, rfl, HA, HK4, HO_6, HO_10, HO_178002, HO_178003, BK177, HB⟩ := hrel
                              have hl10_4 := (Kd.R_reads' HO_10.out).1
                              rw [hl10_4] at HO_10
                              (try simp only [hl10_4])
                              (try simp only [hl10_4] at BK177)
                              (try simp only [hl10_4] at HO_6)
                              (try simp only [hl10_4] at HO_178002)
                              (try simp only [hl10_4] at HO_178003)
                              cases gk with
                              | zero => exact absurd HA.out (by simp [laws_FnNested.l2])
                              | succ k4 =>
                                have H := HA.out
                                clear HA
                                simp only [laws_FnNested.l2] at H
                                by_cases c34 : x12_4 ≥ 0
                                · rw [if_pos c34] at H
                                  have c34b0 : decide (0 ≤ x12_4) = true := decide_eq_true c34
                                  clear c34
                                  (first | rw [c34b0] | (simp only [i64_w, i32_w]; rw [c34b0]) | skip)
                                  by_cases c35 : 0 ≤ x12_4
                                  · rw [if_pos c35] at H
                                    have c35b0 : decide (0 ≤ x12_4) = true := decide_eq_true c35
                                    clear c35
                                    by_cases c36 : x12_4 < (x10_4.length : Int)
                                    · rw [if_pos c36] at H
                                      have c36b0 : decide (x12_4 < (x10_4.length : Int)) = true := decide_eq_true c36
                                      clear c36
                                      by_cases c37 : x12_4 < (t171.length : Int)
                                      · rw [if_pos c37] at H
                                        have c37b0 : decide (x12_4 < (t171.length : Int)) = true := decide_eq_true c37
                                        clear c37
                                        by_cases c38 : (rd x10_4 x12_4) = (wrap64 ((rd t171 x12_4) - 1))
                                        · rw [if_pos c38] at H
                                          have c38b0 : ((rd x10_4 x12_4) == (wrap64 ((rd t171 x12_4) - 1))) = true := beq_iff_eq.mpr c38
                                          have c38b1 : ((rd x10_4 x12_4) != (wrap64 ((rd t171 x12_4) - 1))) = false := bne_eq_false_iff_eq.mpr c38
                                          clear c38
                                          by_cases c39 : x12_4 < (t174.length : Int)
                                          · rw [if_pos c39] at H
                                            have c39b0 : decide (x12_4 < (t174.length : Int)) = true := decide_eq_true c39
                                            clear c39
                                            obtain ⟨y192, hy192⟩ : ∃ y_ : List Int, y_ = (x10_4.set (x12_4 : Int).toNat 0) := ⟨_, rfl⟩
                                            replace H : (laws_FnNested.l2 k4 t178 y192 x11_3 (wrap64 (x12_4 - 1)) (wrap64 (x13_4 - (wrap64 ((rd x10_4 x12_4) * (rd t174 x12_4))))) t169 t170 t171 t174) = some r := by first | (rw [hy192]; with_reducible exact H) | (have H2_ := (Option.bind_some _ _).symm.trans H; rw [hy192]; with_reducible exact H2_) | (have H2_ := (Option.bind_some _ _).symm.trans H; with_reducible exact H2_) | with_reducible exact H | (rw [hy192]; exact H) | exact H
                                            have Ny192 := Aside0.mk hy192
                                            clear hy192
                                            have H' := Aside0.mk H
                                            clear H
                                            have p188 : 0 ≤ (x12_4 : Int) := of_decide_eq_true (by first | (with_reducible assumption) | assumption)
                                            have q188 : x12_4 < (x10_4.length : Int) := of_decide_eq_true (by first | (with_reducible assumption) | assumption)
                                            obtain ⟨ad188, e188, hx188_0⟩ := Kd.at_int (Kd.R_reads' HO_10.out).2.2 x12_4 p188 q188
                                            cases e188
                                            replace p188 := eq_true p188
                                            replace q188 := eq_true q188
                                            have hcz41_0 : wr.cell? ⟨gb177, 0, none⟩ = some (.int .i64 t169) := (blk_cell BK177.out 0).trans rfl
                                            have hcz41_1 : wr.cell? ⟨gb177, 1, none⟩ = some (.int .i64 t170) := (blk_cell BK177.out 1).trans rfl
                                            have hcz41_2 : wr.cell? ⟨gb177, 2, none⟩ = some (.slice Ao10 t171.length co10) := (blk_cell BK177.out 2).trans rfl
                                            have hcz41_3 : wr.cell? ⟨gb177, 3, none⟩ = some (.slice Ao11 t174.length co11) := (blk_cell BK177.out 3).trans rfl
                                            have hfz41_0 := blk_frozen BK177.out 0
                                            have hfz41_1 := blk_frozen BK177.out 1
                                            have hfz41_2 := blk_frozen BK177.out 2
                                            have hfz41_3 := blk_frozen BK177.out 3
                                            have p189 : 0 ≤ (x12_4 : Int) := of_decide_eq_true (by first | (with_reducible assumption) | assumption)
                                            have q189 : x12_4 < (t171.length : Int) := of_decide_eq_true (by first | (with_reducible assumption) | assumption)
                                            obtain ⟨ad189, e189, hx189_0⟩ := Kd.at_int (Kd.R_reads' HO_178002.out).2.2 x12_4 p189 q189
                                            cases e189
                                            replace p189 := eq_true p189
                                            replace q189 := eq_true q189
                                            have p190 : 0 ≤ (x12_4 : Int) := of_decide_eq_true (by first | (with_reducible assumption) | assumption)
                                            have q190 : x12_4 < (x10_4.length : Int) := of_decide_eq_true (by first | (with_reducible assumption) | assumption)
                                            obtain ⟨ad190, e190, hx190_0⟩ := Kd.at_int (Kd.R_reads' HO_10.out).2.2 x12_4 p190 q190
                                            obtain rfl : ad188 = ad190 := (by injection e190)
                                            replace p190 := eq_true p190
                                            replace q190 := eq_true q190
                                            have p191 : 0 ≤ (x12_4 : Int) := of_decide_eq_true (by first | (with_reducible assumption) | assumption)
                                            have q191 : x12_4 < (t174.length : Int) := of_decide_eq_true (by first | (with_reducible assumption) | assumption)
                                            obtain ⟨ad191, e191, hx191_0⟩ := Kd.at_int (Kd.R_reads' HO_178003.out).2.2 x12_4 p191 q191
                                            cases e191
                                            replace p191 := eq_true p191
                                            replace q191 := eq_true q191
                                            have p40 : 0 ≤ (x12_4 : Int) := of_decide_eq_true (by first | (with_reducible assumption) | assumption)
                                            have q40 : (x12_4 : Int) < ((x10_4.length : Int) : Int) := of_decide_eq_true (by first | (with_reducible assumption) | assumption)
                                            obtain ⟨go40, co40, eo40, gb40, gl40, cl40, HG40⟩ := Kd.R_form HO_10.out (by omega)
                                            (first | cases eo40 | (injection eo40 with ea_ en_ ec_; (first | subst ea_ | (injection ea_ with ea_; subst ea_)); subst ec_; clear en_))
                                            have GB40 := Aside0.mk gb40
                                            have GG40 := Aside0.mk HG40
                                            clear gb40 gl40 HG40
                                            (first | simp only [add_plain] at hx188_0 | skip)
                                            (first | simp only [add_plain] at hx190_0 | skip)
                                            obtain ⟨hx40_0, hf40_0⟩ := Kd.R_celln 0 HO_10.out (x12_4 : Int) p40 q40
                                            replace p40 := eq_true p40
                                            replace q40 := eq_true q40
                                            have HP42 := Kd.R_putg HO_10.out (x12_4 : Int) 0
                                            go_wp2_with (first | ((with_reducible refine gate_store (t := 2) (p := 97) rfl ?_); (try (rw [drewN_self wr]; generalize hq_ : World.drewN wr _ = wr; have n0_ := Aside0.mk (Kd.R_at hq_ HO_6.out); have n1_ := Aside0.mk (Kd.R_at hq_ HO_10.out); have n2_ := Aside0.mk (Kd.R_at hq_ HO_178002.out); have n3_ := Aside0.mk (Kd.R_at hq_ HO_178003.out); have n4_ := Aside0.mk (blk_at hq_ BK177.out); have n5_ := Aside0.mk (below_at hq_ HB.out); clear hq_ HO_6 HO_10 HO_178002 HO_178003 BK177 HB; have HO_6 := n0_; have HO_10 := n1_; have HO_178002 := n2_; have HO_178003 := n3_; have BK177 := n4_; have HB := n5_; clear n0_ n1_ n2_ n3_ n4_ n5_; (try (have HP42 := Kd.R_putg HO_10.out (x12_4 : Int) 0)))); refine store_event (t := 2) (p := 97) (v := ?vo_w43) (w1 := (wr.setCell ⟨go40, (x12_4 : Int).toNat, none⟩ (.int .i64 0))) ?hg ?ho ?hn ?hr ?_; (case ho => rfl); (case hg => rfl); (case hn => rfl); (case hr => first | (go_simp; done) | (go_simp; rfl)); intro w43 hw; have hg : wr.grownBy w43 (some go40) := (by rw [hw]; exact HP42.2); have hp_ : Kd.R (Kd.int .i64) 2 w43 w.heap.size (fun k_ => some k_ ≠ (.slice (some ad189) t171.length co10 : Value).ownBlock ∧ some k_ ≠ (.slice (some ad191) t174.length co11 : Value).ownBlock) (.slice (some ⟨go40, 0, none⟩) x10_4.length co33) y192 := (by rw [hw, Ny192.out]; exact HP42.1); clear HP42; have n0_ := Aside0.mk (Kd.R_over' (v := (.slice (some ⟨go40, 0, none⟩) x10_4.length co33)) (by (with_reducible repeat (first | apply Kd.R_alloc | apply Kd.R_drewN | apply Kd.R_drew)); exact HO_6.out) (Kd.R_typed HO_10.out) (by decide) hg); have n1_ := Aside0.mk (hp_); have n2_ := Aside0.mk (Kd.R_after (v := (.slice (some ⟨go40, 0, none⟩) x10_4.length co33)) (v1 := (.slice (some ⟨go40, 0, none⟩) x10_4.length co33)) (ok := (fun k_ => some k_ ≠ (.slice (some ad191) t174.length co11 : Value).ownBlock)) (by (with_reducible repeat (first | apply Kd.R_alloc | apply Kd.R_drewN | apply Kd.R_drew)); exact Kd.R_mono HO_178002.out (fun _ hk => ⟨hk.2, hk.1⟩)) hg (.inl rfl)); have n3_ := Aside0.mk (Kd.R_after (v := (.slice (some ⟨go40, 0, none⟩) x10_4.length co33)) (v1 := (.slice (some ⟨go40, 0, none⟩) x10_4.length co33)) (ok := (fun k_ => some k_ ≠ (.slice (some ad189) t171.length co10 : Value).ownBlock)) (by (with_reducible repeat (first | apply Kd.R_alloc | apply Kd.R_drewN | apply Kd.R_drew)); exact Kd.R_mono HO_178003.out (fun _ hk => ⟨hk.2, hk.1⟩)) hg (.inl rfl)); have n4_ := Aside0.mk (blk_grown (g := gb177) (o := .cells #[.int .i64 t169, .int .i64 t170, .slice (some ad189) t171.length co10, .slice (some ad191) t174.length co11] 26 (0, 0)) (by (with_reducible repeat (first | refine blk_drewN ?_ _ | refine blk_drew ?_ | refine blk_alloc ?_ _)); exact BK177.out) hg (Kd.R_ne HO_10.out BK177.out (by decide))); have n5_ := Aside0.mk ((by rw [hw]; exact below_set (HB.out) GB40.out : Below w.heap.size w w43)); clear HO_6; clear HO_10; clear HO_178002; clear HO_178003; clear BK177; clear HB; have HO_6 := n0_; have HO_10 := n1_; have HO_178002 := n2_; have HO_178003 := n3_; have BK177 := n4_; have HB := n5_; clear n0_ n1_ n2_ n3_ n4_ n5_; clear hg hw hp_))
                                            repeat (go_quiet (first | ((with_reducible refine gate_store (t := 2) (p := 97) rfl ?_); (try (rw [drewN_self wr]; generalize hq_ : World.drewN wr _ = wr; have n0_ := Aside0.mk (Kd.R_at hq_ HO_6.out); have n1_ := Aside0.mk (Kd.R_at hq_ HO_10.out); have n2_ := Aside0.mk (Kd.R_at hq_ HO_178002.out); have n3_ := Aside0.mk (Kd.R_at hq_ HO_178003.out); have n4_ := Aside0.mk (blk_at hq_ BK177.out); have n5_ := Aside0.mk (below_at hq_ HB.out); clear hq_ HO_6 HO_10 HO_178002 HO_178003 BK177 HB; have HO_6 := n0_; have HO_10 := n1_; have HO_178002 := n2_; have HO_178003 := n3_; have BK177 := n4_; have HB := n5_; clear n0_ n1_ n2_ n3_ n4_ n5_; (try (have HP42 := Kd.R_putg HO_10.out (x12_4 : Int) 0)))); refine store_event (t := 2) (p := 97) (v := ?vo_w43) (w1 := (wr.setCell ⟨go40, (x12_4 : Int).toNat, none⟩ (.int .i64 0))) ?hg ?ho ?hn ?hr ?_; (case ho => rfl); (case hg => rfl); (case hn => rfl); (case hr => first | (go_simp; done) | (go_simp; rfl)); intro w43 hw; have hg : wr.grownBy w43 (some go40) := (by rw [hw]; exact HP42.2); have hp_ : Kd.R (Kd.int .i64) 2 w43 w.heap.size (fun k_ => some k_ ≠ (.slice (some ad189) t171.length co10 : Value).ownBlock ∧ some k_ ≠ (.slice (some ad191) t174.length co11 : Value).ownBlock) (.slice (some ⟨go40, 0, none⟩) x10_4.length co33) y192 := (by rw [hw, Ny192.out]; exact HP42.1); clear HP42; have n0_ := Aside0.mk (Kd.R_over' (v := (.slice (some ⟨go40, 0, none⟩) x10_4.length co33)) (by (with_reducible repeat (first | apply Kd.R_alloc | apply Kd.R_drewN | apply Kd.R_drew)); exact HO_6.out) (Kd.R_typed HO_10.out) (by decide) hg); have n1_ := Aside0.mk (hp_); have n2_ := Aside0.mk (Kd.R_after (v := (.slice (some ⟨go40, 0, none⟩) x10_4.length co33)) (v1 := (.slice (some ⟨go40, 0, none⟩) x10_4.length co33)) (ok := (fun k_ => some k_ ≠ (.slice (some ad191) t174.length co11 : Value).ownBlock)) (by (with_reducible repeat (first | apply Kd.R_alloc | apply Kd.R_drewN | apply Kd.R_drew)); exact Kd.R_mono HO_178002.out (fun _ hk => ⟨hk.2, hk.1⟩)) hg (.inl rfl)); have n3_ := Aside0.mk (Kd.R_after (v := (.slice (some ⟨go40, 0, none⟩) x10_4.length co33)) (v1 := (.slice (some ⟨go40, 0, none⟩) x10_4.length co33)) (ok := (fun k_ => some k_ ≠ (.slice (some ad189) t171.length co10 : Value).ownBlock)) (by (with_reducible repeat (first | apply Kd.R_alloc | apply Kd.R_drewN | apply Kd.R_drew)); exact Kd.R_mono HO_178003.out (fun _ hk => ⟨hk.2, hk.1⟩)) hg (.inl rfl)); have n4_ := Aside0.mk (blk_grown (g := gb177) (o := .cells #[.int .i64 t169, .int .i64 t170, .slice (some ad189) t171.length co10, .slice (some ad191) t174.length co11] 26 (0, 0)) (by (with_reducible repeat (first | refine blk_drewN ?_ _ | refine blk_drew ?_ | refine blk_alloc ?_ _)); exact BK177.out) hg (Kd.R_ne HO_10.out BK177.out (by decide))); have n5_ := Aside0.mk ((by rw [hw]; exact below_set (HB.out) GB40.out : Below w.heap.size w w43)); clear HO_6; clear HO_10; clear HO_178002; clear HO_178003; clear BK177; clear HB; have HO_6 := n0_; have HO_10 := n1_; have HO_178002 := n2_; have HO_178003 := n3_; have BK177 := n4_; have HB := n5_; clear n0_ n1_ n2_ n3_ n4_ n5_; clear hg hw hp_)); try go_wp2_with (first | ((with_reducible refine gate_store (t := 2) (p := 97) rfl ?_); (try (rw [drewN_self wr]; generalize hq_ : World.drewN wr _ = wr; have n0_ := Aside0.mk (Kd.R_at hq_ HO_6.out); have n1_ := Aside0.mk (Kd.R_at hq_ HO_10.out); have n2_ := Aside0.mk (Kd.R_at hq_ HO_178002.out); have n3_ := Aside0.mk (Kd.R_at hq_ HO_178003.out); have n4_ := Aside0.mk (blk_at hq_ BK177.out); have n5_ := Aside0.mk (below_at hq_ HB.out); clear hq_ HO_6 HO_10 HO_178002 HO_178003 BK177 HB; have HO_6 := n0_; have HO_10 := n1_; have HO_178002 := n2_; have HO_178003 := n3_; have BK177 := n4_; have HB := n5_; clear n0_ n1_ n2_ n3_ n4_ n5_; (try (have HP42 := Kd.R_putg HO_10.out (x12_4 : Int) 0)))); refine store_event (t := 2) (p := 97) (v := ?vo_w43) (w1 := (wr.setCell ⟨go40, (x12_4 : Int).toNat, none⟩ (.int .i64 0))) ?hg ?ho ?hn ?hr ?_; (case ho => rfl); (case hg => rfl); (case hn => rfl); (case hr => first | (go_simp; done) | (go_simp; rfl)); intro w43 hw; have hg : wr.grownBy w43 (some go40) := (by rw [hw]; exact HP42.2); have hp_ : Kd.R (Kd.int .i64) 2 w43 w.heap.size (fun k_ => some k_ ≠ (.slice (some ad189) t171.length co10 : Value).ownBlock ∧ some k_ ≠ (.slice (some ad191) t174.length co11 : Value).ownBlock) (.slice (some ⟨go40, 0, none⟩) x10_4.length co33) y192 := (by rw [hw, Ny192.out]; exact HP42.1); clear HP42; have n0_ := Aside0.mk (Kd.R_over' (v := (.slice (some ⟨go40, 0, none⟩) x10_4.length co33)) (by (with_reducible repeat (first | apply Kd.R_alloc | apply Kd.R_drewN | apply Kd.R_drew)); exact HO_6.out) (Kd.R_typed HO_10.out) (by decide) hg); have n1_ := Aside0.mk (hp_); have n2_ := Aside0.mk (Kd.R_after (v := (.slice (some ⟨go40, 0, none⟩) x10_4.length co33)) (v1 := (.slice (some ⟨go40, 0, none⟩) x10_4.length co33)) (ok := (fun k_ => some k_ ≠ (.slice (some ad191) t174.length co11 : Value).ownBlock)) (by (with_reducible repeat (first | apply Kd.R_alloc | apply Kd.R_drewN | apply Kd.R_drew)); exact Kd.R_mono HO_178002.out (fun _ hk => ⟨hk.2, hk.1⟩)) hg (.inl rfl)); have n3_ := Aside0.mk (Kd.R_after (v := (.slice (some ⟨go40, 0, none⟩) x10_4.length co33)) (v1 := (.slice (some ⟨go40, 0, none⟩) x10_4.length co33)) (ok := (fun k_ => some k_ ≠ (.slice (some ad189) t171.length co10 : Value).ownBlock)) (by (with_reducible repeat (first | apply Kd.R_alloc | apply Kd.R_drewN | apply Kd.R_drew)); exact Kd.R_mono HO_178003.out (fun _ hk => ⟨hk.2, hk.1⟩)) hg (.inl rfl)); have n4_ := Aside0.mk (blk_grown (g := gb177) (o := .cells #[.int .i64 t169, .int .i64 t170, .slice (some ad189) t171.length co10, .slice (some ad191) t174.length co11] 26 (0, 0)) (by (with_reducible repeat (first | refine blk_drewN ?_ _ | refine blk_drew ?_ | refine blk_alloc ?_ _)); exact BK177.out) hg (Kd.R_ne HO_10.out BK177.out (by decide))); have n5_ := Aside0.mk ((by rw [hw]; exact below_set (HB.out) GB40.out : Below w.heap.size w w43)); clear HO_6; clear HO_10; clear HO_178002; clear HO_178003; clear BK177; clear HB; have HO_6 := n0_; have HO_10 := n1_; have HO_178002 := n2_; have HO_178003 := n3_; have BK177 := n4_; have HB := n5_; clear n0_ n1_ n2_ n3_ n4_ n5_; clear hg hw hp_)))
                                            generalize hq_ : World.drewN wr _ = wr1_
                                            have m6_ := Kd.R_at hq_ HO_6.out
                                            have m10_ := Kd.R_at hq_ HO_10.out
                                            have mA_ := Kd.R_at hq_ HO_178002.out
                                            have mB_ := Kd.R_at hq_ HO_178003.out
                                            have mK_ := blk_at hq_ BK177.out
                                            have mH_ := below_at hq_ HB.out
                                            have HP_ := Kd.R_putg m10_ (x12_4 : Int) 0
                                            have hg_ := HP_.2
                                            have n0_ := Aside0.mk (Kd.R_over' (v := (.slice (some ⟨go40, 0, none⟩) x10_4.length co33)) m6_ (Kd.R_typed m10_) (by decide) hg_)
                                            have n1_ := Aside0.mk HP_.1
                                            rw [← Ny192.out] at n1_
                                            have n2_ := Aside0.mk (Kd.R_after (v := (.slice (some ⟨go40, 0, none⟩) x10_4.length co33)) (v1 := (.slice (some ⟨go40, 0, none⟩) x10_4.length co33)) (ok := (fun k_ => some k_ ≠ (.slice (some ad191) t174.length co11 : Value).ownBlock)) (Kd.R_mono mA_ (fun _ hk => ⟨hk.2, hk.1⟩)) hg_ (.inl rfl))
                                            have n3_ := Aside0.mk (Kd.R_after (v := (.slice (some ⟨go40, 0, none⟩) x10_4.length co33)) (v1 := (.slice (some ⟨go40, 0, none⟩) x10_4.length co33)) (ok := (fun k_ => some k_ ≠ (.slice (some ad189) t171.length co10 : Value).ownBlock)) (Kd.R_mono mB_ (fun _ hk => ⟨hk.2, hk.1⟩)) hg_ (.inl rfl))
                                            have n4_ := Aside0.mk (blk_grown (g := gb177) (o := .cells #[.int .i64 t169, .int .i64 t170, .slice (some ad189) t171.length co10, .slice (some ad191) t174.length co11] 26 (0, 0)) mK_ hg_ (Kd.R_ne m10_ mK_ (by decide)))
                                            have n5_ := Aside0.mk (below_set (j := (x12_4 : Int).toNat) (v := .int .i64 0) mH_ GB40.out)
                                            clear hq_ HO_6 HO_10 HO_178002 HO_178003 BK177 HB m6_ m10_ mA_ mB_ mK_ mH_ HP_ hg_
                                            have HO_6 := n0_
                                            have HO_10 := n1_
                                            have HO_178002 := n2_
                                            have HO_178003 := n3_
                                            have BK177 := n4_
                                            have HB := n5_
                                            clear n0_ n1_ n2_ n3_ n4_ n5_
                                            (try simp only [← hl10_4])
                                            go_roundg k4
                                            case measure => have := HK1.out; have := HJ15.out; have := HK3.out; have := HK4.out; omega
                                            case rel => exact ⟨(y192), (wrap64 (x12_4 - 1)), (wrap64 (x13_4 - (wrap64 ((rd x10_4 x12_4) * (rd t174 x12_4))))), (by first | rfl | (simp; done) | (simp [*]; done)), (by first | rfl | (simp; done) | (simp [*]; done)), H', ⟨by have := HK1.out; have := HJ15.out; have := HK3.out; have := HK4.out; omega⟩, ⟨by (try simp only [hl10_4]); (with_reducible repeat (first | apply Kd.R_alloc | apply Kd.R_drewN | apply Kd.R_drew)); exact HO_6.out⟩, ⟨by (try simp only [hl10_4]); (with_reducible repeat (first | apply Kd.R_alloc | apply Kd.R_drewN | apply Kd.R_drew)); exact HO_10.out⟩, ⟨by (try simp only [hl10_4]); (with_reducible repeat (first | apply Kd.R_alloc | apply Kd.R_drewN | apply Kd.R_drew)); exact Kd.R_mono HO_178002.out (fun _ hk => ⟨hk.2, hk.1⟩)⟩, ⟨by (try simp only [hl10_4]); (with_reducible repeat (first | apply Kd.R_alloc | apply Kd.R_drewN | apply Kd.R_drew)); exact Kd.R_mono HO_178003.out (fun _ hk => ⟨hk.2, hk.1⟩)⟩, ⟨by (try simp only [hl10_4]); (with_reducible repeat (first | refine blk_drewN ?_ _ | refine blk_drew ?_ | refine blk_alloc ?_ _)); exact BK177.out⟩, ⟨by repeat (first | (with_reducible first | exact HB.out | apply below_alloc | apply pw_below_drewN | apply below_drew1 | refine below_set ?_ GE177.out) | exact HB.out)⟩⟩
                                          · rw [if_neg c39] at H
                                            exact absurd H (by simp)
                                        · rw [if_neg c38] at H
                                          have c38b0 : ((rd x10_4 x12_4) == (wrap64 ((rd t171 x12_4) - 1))) = false := beq_eq_false_iff_ne.mpr c38
                                          have c38b1 : ((rd x10_4 x12_4) != (wrap64 ((rd t171 x12_4) - 1))) = true := bne_iff_ne.mpr c38
                                          have H' := Aside0.mk H
                                          clear H
                                          have p188 : 0 ≤ (x12_4 : Int) := of_decide_eq_true (by first | (with_reducible assumption) | assumption)
                                          have q188 : x12_4 < (x10_4.length : Int) := of_decide_eq_true (by first | (with_reducible assumption) | assumption)
                                          obtain ⟨ad188, e188, hx188_0⟩ := Kd.at_int (Kd.R_reads' HO_10.out).2.2 x12_4 p188 q188
                                          cases e188
                                          replace p188 := eq_true p188
                                          replace q188 := eq_true q188
                                          have hcz44_0 : wr.cell? ⟨gb177, 0, none⟩ = some (.int .i64 t169) := (blk_cell BK177.out 0).trans rfl
                                          have hcz44_1 : wr.cell? ⟨gb177, 1, none⟩ = some (.int .i64 t170) := (blk_cell BK177.out 1).trans rfl
                                          have hcz44_2 : wr.cell? ⟨gb177, 2, none⟩ = some (.slice Ao10 t171.length co10) := (blk_cell BK177.out 2).trans rfl
                                          have hcz44_3 : wr.cell? ⟨gb177, 3, none⟩ = some (.slice Ao11 t174.length co11) := (blk_cell BK177.out 3).trans rfl
                                          have hfz44_0 := blk_frozen BK177.out 0
                                          have hfz44_1 := blk_frozen BK177.out 1
                                          have hfz44_2 := blk_frozen BK177.out 2
                                          have hfz44_3 := blk_frozen BK177.out 3
                                          have p189 : 0 ≤ (x12_4 : Int) := of_decide_eq_true (by first | (with_reducible assumption) | assumption)
                                          have q189 : x12_4 < (t171.length : Int) := of_decide_eq_true (by first | (with_reducible assumption) | assumption)
                                          obtain ⟨ad189, e189, hx189_0⟩ := Kd.at_int (Kd.R_reads' HO_178002.out).2.2 x12_4 p189 q189
                                          cases e189
                                          replace p189 := eq_true p189
                                          replace q189 := eq_true q189
                                          go_wp2
                                          repeat (go_quiet (fail); try go_wp2)
                                          (try simp only [← hl10_4])
                                          go_meet
                                          case rel => exact ⟨_, (x10_4), (x12_4), (x13_4), (by first | rfl | (simp; done) | (simp [*]; done)), (by first | rfl | (simp; done) | (simp [*]; done)), H', ⟨by have := HK1.out; have := HJ15.out; have := HK3.out; have := HK4.out; first | omega | exact Nat.le_refl _⟩, ⟨by (try simp only [hl10_4]); (with_reducible repeat (first | apply Kd.R_alloc | apply Kd.R_drewN | apply Kd.R_drew)); exact HO_6.out⟩, ⟨by (try simp only [hl10_4]); (with_reducible repeat (first | apply Kd.R_alloc | apply Kd.R_drewN | apply Kd.R_drew)); exact HO_10.out⟩, ⟨by (try simp only [hl10_4]); (with_reducible repeat (first | apply Kd.R_alloc | apply Kd.R_drewN | apply Kd.R_drew)); exact HO_178002.out⟩, ⟨by (try simp only [hl10_4]); (with_reducible repeat (first | apply Kd.R_alloc | apply Kd.R_drewN | apply Kd.R_drew)); exact HO_178003.out⟩, ⟨by (try simp only [hl10_4]); (with_reducible repeat (first | refine blk_drewN ?_ _ | refine blk_drew ?_ | refine blk_alloc ?_ _)); exact BK177.out⟩, ⟨by repeat (first | (with_reducible first | exact HB.out | apply below_alloc | apply pw_below_drewN | apply below_drew1 | refine below_set ?_ GE177.out) | exact HB.out)⟩⟩
                                      · rw [if_neg c37] at H
                                        exact absurd H (by simp)
                                    · rw [if_neg c36] at H
                                      exact absurd H (by simp)
                                  · rw [if_neg c35] at H
                                    exact absurd H (by simp)
                                · rw [if_neg c34] at H
                                  have c34b0 : decide (0 ≤ x12_4) = false := decide_eq_false c34
                                  clear c34
                                  (first | rw [c34b0] | (simp only [i64_w, i32_w]; rw [c34b0]) | skip)
                                  have H' := Aside0.mk H
                                  clear H
                                  go_wp2
                                  repeat (go_quiet (fail); try go_wp2)
                                  (try simp only [← hl10_4])
                                  go_meet
                                  case rel => exact ⟨_, (x10_4), (x12_4), (x13_4), (by first | rfl | (simp; done) | (simp [*]; done)), (by first | rfl | (simp; done) | (simp [*]; done)), H', ⟨by have := HK1.out; have := HJ15.out; have := HK3.out; have := HK4.out; first | omega | exact Nat.le_refl _⟩, ⟨by (try simp only [hl10_4]); (with_reducible repeat (first | apply Kd.R_alloc | apply Kd.R_drewN | apply Kd.R_drew)); exact HO_6.out⟩, ⟨by (try simp only [hl10_4]); (with_reducible repeat (first | apply Kd.R_alloc | apply Kd.R_drewN | apply Kd.R_drew)); exact HO_10.out⟩, ⟨by (try simp only [hl10_4]); (with_reducible repeat (first | apply Kd.R_alloc | apply Kd.R_drewN | apply Kd.R_drew)); exact HO_178002.out⟩, ⟨by (try simp only [hl10_4]); (with_reducible repeat (first | apply Kd.R_alloc | apply Kd.R_drewN | apply Kd.R_drew)); exact HO_178003.out⟩, ⟨by (try simp only [hl10_4]); (with_reducible repeat (first | refine blk_drewN ?_ _ | refine blk_drew ?_ | refine blk_alloc ?_ _)); exact BK177.out⟩, ⟨by repeat (first | (with_reducible first | exact HB.out | apply below_alloc | apply pw_below_drewN | apply below_drew1 | refine below_set ?_ GE177.out) | exact HB.out)⟩⟩
                          case rest =>
                            clear HC31
                            try clear c1
                            try clear p1
                            try clear q1
                            try clear hx1
                            try clear qi1
                            try clear c2
                            try clear p2
                            try clear c3
                            try clear c4
                            try clear p4
                            try clear q4
                            try clear hx4
                            try clear hf4
                            try clear p6
                            try clear c13
                            try clear c13b0
                            try clear c14
                            try clear c14b0
                            try clear c18
                            try clear p18
                            try clear q18
                            try clear hx18
                            try clear qi18
                            try clear c19
                            try clear c19b0
                            try clear c19b1
                            try clear p19
                            try clear q19
                            try clear hx19
                            try clear c20
                            try clear c20b0
                            try clear c20b1
                            try clear c24
                            try clear c25
                            try clear c25b0
                            try clear c25b1
                            try clear c26
                            try clear c26b0
                            try clear c26b1
                            try clear c30
                            try clear c30b0
                            try clear c34
                            try clear c34b0
                            try clear c35
                            try clear c35b0
                            try clear c36
                            try clear c36b0
                            try clear c37
                            try clear c37b0
                            try clear c38
                            try clear c38b0
                            try clear c38b1
                            try clear c39
                            try clear c39b0
                            try clear p40
                            try clear q40
                            try clear hx40
                            try clear hf40
                            try clear hcz15_0
                            try clear hcz15_1
                            try clear hcz15_2
                            try clear hcz15_3
                            try clear hcz17_0
                            try clear hcz17_1
                            try clear hcz17_2
                            try clear hcz17_3
                            try clear hcz22_0
                            try clear hcz22_1
                            try clear hcz22_2
                            try clear hcz22_3
                            try clear hcz27_0
                            try clear hcz27_1
                            try clear hcz27_2
                            try clear hcz27_3
                            try clear hcz41_0
                            try clear hcz41_1
                            try clear hcz41_2
                            try clear hcz41_3
                            try clear hcz44_0
                            try clear hcz44_1
                            try clear hcz44_2
                            try clear hcz44_3
                            try clear hcz9_0
                            try clear hcz9_1
                            try clear hcz9_2
                            try clear hcz9_3
                            try clear hfz15_0
                            try clear hfz15_1
                            try clear hfz15_2
                            try clear hfz15_3
                            try clear hfz17_0
                            try clear hfz17_1
                            try clear hfz17_2
                            try clear hfz17_3
                            try clear hfz22_0
                            try clear hfz22_1
                            try clear hfz22_2
                            try clear hfz22_3
                            try clear hfz27_0
                            try clear hfz27_1
                            try clear hfz27_2
                            try clear hfz27_3
                            try clear hfz41_0
                            try clear hfz41_1
                            try clear hfz41_2
                            try clear hfz41_3
                            try clear hfz44_0
                            try clear hfz44_1
                            try clear hfz44_2
                            try clear hfz44_3
                            try clear hfz9_0
                            try clear hfz9_1
                            try clear hfz9_2
                            try clear hfz9_3
                            try clear hx182_0
                            try clear hx183_0
                            try clear hx183_1
                            try clear hx188_0
                            try clear hx189_0
                            try clear hx190_0
                            try clear hx191_0
                            try clear hx40_0
                            try clear p1
                            try clear p18
                            try clear p182
                            try clear p183
                            try clear p188
                            try clear p189
                            try clear p190
                            try clear p191
                            try clear p2
                            try clear p40
                            try clear p6
                            try clear q1
                            try clear q18
                            try clear q182
                            try clear q183
                            try clear q188
                            try clear q189
                            try clear q190
                            try clear q191
                            try clear q40
                            obtain ⟨kq, x10_30, x12_30, x13_30, rfl, rfl, HA, HJ30, HO_6, HO_10, HO_178002, HO_178003, BK177, HB⟩ := hcut
                            have hl10_30 := (Kd.R_reads' HO_10.out).1
                            rw [hl10_30] at HO_10
                            (try simp only [hl10_30])
                            (try simp only [hl10_30] at BK177)
                            (try simp only [hl10_30] at HO_6)
                            (try simp only [hl10_30] at HO_178002)
                            (try simp only [hl10_30] at HO_178003)
                            cases kq with
                            | zero => exact absurd HA.out (by simp [laws_FnNested.j4])
                            | succ kj30 =>
                              have H := HA.out
                              clear HA
                              simp only [laws_FnNested.j4] at H
                              by_cases c45 : x12_30 < 0
                              · rw [if_pos c45] at H
                                have c45b0 : decide (x12_30 < 0) = true := decide_eq_true c45
                                clear c45
                                obtain rfl := Option.some.inj H
                                go_wp2
                                repeat (go_quiet (fail); try go_wp2)
                                go_ret
                                exact ⟨by first | rfl | (simp [errW_none, errW_some] <;> rfl) | (simp [*, errW_none, errW_some] <;> rfl), by repeat (first | (with_reducible first | exact HB.out | apply below_alloc | apply pw_below_drewN | apply below_drew1 | refine below_set ?_ GE177.out) | exact HB.out)⟩
                              · rw [if_neg c45] at H
                                have c45b0 : decide (x12_30 < 0) = false := decide_eq_false c45
                                clear c45
                                by_cases c46 : 0 ≤ x12_30
                                · rw [if_pos c46] at H
                                  have c46b0 : decide (0 ≤ x12_30) = true := decide_eq_true c46
                                  clear c46
                                  by_cases c47 : x12_30 < (x10_30.length : Int)
                                  · rw [if_pos c47] at H
                                    have c47b0 : decide (x12_30 < (x10_30.length : Int)) = true := decide_eq_true c47
                                    clear c47
                                    obtain ⟨y194, hy194⟩ : ∃ y_ : List Int, y_ = (x10_30.set (x12_30 : Int).toNat (wrap64 ((rd x10_30 x12_30) + 1))) := ⟨_, rfl⟩
                                    replace H : (if x12_30 < (t174.length : Int) then (if 0 ≤ x11_3 then (if x11_3 < (t178.length : Int) then (if ((rd_T32 t178 x11_3).f0) = t169 then (if 0 ≤ (wrap64 (x11_3 - 1)) then (if (wrap64 (x11_3 - 1)) < (t178.length : Int) then (if (Int.tmod (wrap64 ((wrap64 (((rd_T32 t178 x11_3).f1) - ((rd_T32 t178 (wrap64 (x11_3 - 1))).f1))) - (wrap64 (x13_30 + (rd t174 x12_30))))) 64) = 0 then (if ((rd_T32 t178 x11_3).f1) < 0 then (some false) else (if ((rd_T32 t178 x11_3).f1) ≥ 64 then (some false) else (laws_FnNested.l1 kj30 t178 y194 (wrap64 (x11_3 + 1)) t169 t170 t171 t174))) else (some false)) else (none)) else (none)) else (some false)) else (none)) else (none)) else (none)) = some r := by first | (rw [hy194]; with_reducible exact H) | (have H2_ := (Option.bind_some _ _).symm.trans H; rw [hy194]; with_reducible exact H2_) | (have H2_ := (Option.bind_some _ _).symm.trans H; with_reducible exact H2_) | with_reducible exact H | (rw [hy194]; exact H) | exact H
                                    have Ny194 := Aside0.mk hy194
                                    clear hy194
                                    by_cases c49 : x12_30 < (t174.length : Int)
                                    · rw [if_pos c49] at H
                                      have c49b0 : decide (x12_30 < (t174.length : Int)) = true := decide_eq_true c49
                                      clear c49
                                      by_cases c50 : 0 ≤ x11_3
                                      · rw [if_pos c50] at H
                                        have c50b0 : decide (0 ≤ x11_3) = true := decide_eq_true c50
                                        clear c50
                                        by_cases c51 : x11_3 < (t178.length : Int)
                                        · rw [if_pos c51] at H
                                          have c51b0 : decide (x11_3 < (t178.length : Int)) = true := decide_eq_true c51
                                          clear c51
                                          by_cases c52 : ((rd_T32 t178 x11_3).f0) = t169
                                          · rw [if_pos c52] at H
                                            have c52b0 : (((rd_T32 t178 x11_3).f0) == t169) = true := beq_iff_eq.mpr c52
                                            have c52b1 : (((rd_T32 t178 x11_3).f0) != t169) = false := bne_eq_false_iff_eq.mpr c52
                                            clear c52
                                            obtain ⟨ji53, hji53⟩ : ∃ j_ : Int, (wrap64 (x11_3 - 1)) = j_ := ⟨_, rfl⟩
                                            replace H : (if 0 ≤ (ji53) then (if (ji53) < (t178.length : Int) then (if (Int.tmod (wrap64 ((wrap64 (((rd_T32 t178 x11_3).f1) - ((rd_T32 t178 (ji53)).f1))) - (wrap64 (x13_30 + (rd t174 x12_30))))) 64) = 0 then (if ((rd_T32 t178 x11_3).f1) < 0 then (some false) else (if ((rd_T32 t178 x11_3).f1) ≥ 64 then (some false) else (laws_FnNested.l1 kj30 t178 y194 (wrap64 (x11_3 + 1)) t169 t170 t171 t174))) else (some false)) else (none)) else (none)) = some r := by first | (rw [hji53] at H; exact H) | (simp only [hji53] at H ⊢; exact H)
                                            have hji53w : (IntKind.i64.wrap (x11_3 - 1)) = ji53 := (i64_w _).trans hji53
                                            by_cases c54 : 0 ≤ (ji53)
                                            · rw [if_pos c54] at H
                                              have c54b0 : decide (0 ≤ (ji53)) = true := decide_eq_true c54
                                              clear c54
                                              by_cases c55 : (ji53) < (t178.length : Int)
                                              · rw [if_pos c55] at H
                                                have c55b0 : decide ((ji53) < (t178.length : Int)) = true := decide_eq_true c55
                                                clear c55
                                                by_cases c56 : (Int.tmod (wrap64 ((wrap64 (((rd_T32 t178 x11_3).f1) - ((rd_T32 t178 (ji53)).f1))) - (wrap64 (x13_30 + (rd t174 x12_30))))) 64) = 0
                                                · rw [if_pos c56] at H
                                                  have c56b0 : ((Int.tmod (wrap64 ((wrap64 (((rd_T32 t178 x11_3).f1) - ((rd_T32 t178 (ji53)).f1))) - (wrap64 (x13_30 + (rd t174 x12_30))))) 64) == 0) = true := beq_iff_eq.mpr c56
                                                  have c56b1 : ((Int.tmod (wrap64 ((wrap64 (((rd_T32 t178 x11_3).f1) - ((rd_T32 t178 (ji53)).f1))) - (wrap64 (x13_30 + (rd t174 x12_30))))) 64) != 0) = false := bne_eq_false_iff_eq.mpr c56
                                                  clear c56
                                                  by_cases c57 : ((rd_T32 t178 x11_3).f1) < 0
                                                  · rw [if_pos c57] at H
                                                    have c57b0 : decide (((rd_T32 t178 x11_3).f1) < 0) = true := decide_eq_true c57
                                                    clear c57
                                                    obtain rfl := Option.some.inj H
                                                    have p193 : 0 ≤ (x12_30 : Int) := of_decide_eq_true (by first | (with_reducible assumption) | assumption)
                                                    have q193 : x12_30 < (x10_30.length : Int) := of_decide_eq_true (by first | (with_reducible assumption) | assumption)
                                                    obtain ⟨ad193, e193, hx193_0⟩ := Kd.at_int (Kd.R_reads' HO_10.out).2.2 x12_30 p193 q193
                                                    cases e193
                                                    replace p193 := eq_true p193
                                                    replace q193 := eq_true q193
                                                    have p48 : 0 ≤ (x12_30 : Int) := of_decide_eq_true (by first | (with_reducible assumption) | assumption)
                                                    have q48 : (x12_30 : Int) < ((x10_30.length : Int) : Int) := of_decide_eq_true (by first | (with_reducible assumption) | assumption)
                                                    obtain ⟨go48, co48, eo48, gb48, gl48, cl48, HG48⟩ := Kd.R_form HO_10.out (by omega)
                                                    (first | cases eo48 | (injection eo48 with ea_ en_ ec_; (first | subst ea_ | (injection ea_ with ea_; subst ea_)); subst ec_; clear en_))
                                                    have GB48 := Aside0.mk gb48
                                                    have GG48 := Aside0.mk HG48
                                                    clear gb48 gl48 HG48
                                                    (first | simp only [add_plain] at hx193_0 | skip)
                                                    obtain ⟨hx48_0, hf48_0⟩ := Kd.R_celln 0 HO_10.out (x12_30 : Int) p48 q48
                                                    replace p48 := eq_true p48
                                                    replace q48 := eq_true q48
                                                    have HP58 := Kd.R_putg HO_10.out (x12_30 : Int) (wrap64 ((rd x10_30 x12_30) + 1))
                                                    go_wp2_with (first | ((with_reducible refine gate_store (t := 2) (p := 107) rfl ?_); (try (rw [drewN_self wc]; generalize hq_ : World.drewN wc _ = wc; have n0_ := Aside0.mk (Kd.R_at hq_ HO_6.out); have n1_ := Aside0.mk (Kd.R_at hq_ HO_10.out); have n2_ := Aside0.mk (Kd.R_at hq_ HO_178002.out); have n3_ := Aside0.mk (Kd.R_at hq_ HO_178003.out); have n4_ := Aside0.mk (blk_at hq_ BK177.out); have n5_ := Aside0.mk (below_at hq_ HB.out); clear hq_ HO_6 HO_10 HO_178002 HO_178003 BK177 HB; have HO_6 := n0_; have HO_10 := n1_; have HO_178002 := n2_; have HO_178003 := n3_; have BK177 := n4_; have HB := n5_; clear n0_ n1_ n2_ n3_ n4_ n5_; (try (have HP58 := Kd.R_putg HO_10.out (x12_30 : Int) (wrap64 ((rd x10_30 x12_30) + 1)))))); refine store_event (t := 2) (p := 107) (v := ?vo_w59) (w1 := (wc.setCell ⟨go48, (x12_30 : Int).toNat, none⟩ (.int .i64 (wrap64 ((rd x10_30 x12_30) + 1))))) ?hg ?ho ?hn ?hr ?_; (case ho => rfl); (case hg => rfl); (case hn => rfl); (case hr => first | (go_simp; done) | (go_simp; rfl)); intro w59 hw; have hg : wc.grownBy w59 (some go48) := (by rw [hw]; exact HP58.2); have hp_ : Kd.R (Kd.int .i64) 2 w59 w.heap.size (fun k_ => some k_ ≠ (.slice Ao10 t171.length co10 : Value).ownBlock ∧ some k_ ≠ (.slice Ao11 t174.length co11 : Value).ownBlock) (.slice (some ⟨go48, 0, none⟩) x10_30.length co33) y194 := (by rw [hw, Ny194.out]; exact HP58.1); clear HP58; have n0_ := Aside0.mk (Kd.R_over' (v := (.slice (some ⟨go48, 0, none⟩) x10_30.length co33)) (by (with_reducible repeat (first | apply Kd.R_alloc | apply Kd.R_drewN | apply Kd.R_drew)); exact HO_6.out) (Kd.R_typed HO_10.out) (by decide) hg); have n1_ := Aside0.mk (hp_); have n2_ := Aside0.mk (Kd.R_after (v := (.slice (some ⟨go48, 0, none⟩) x10_30.length co33)) (v1 := (.slice (some ⟨go48, 0, none⟩) x10_30.length co33)) (ok := (fun k_ => some k_ ≠ (.slice Ao11 t174.length co11 : Value).ownBlock)) (by (with_reducible repeat (first | apply Kd.R_alloc | apply Kd.R_drewN | apply Kd.R_drew)); exact Kd.R_mono HO_178002.out (fun _ hk => ⟨hk.2, hk.1⟩)) hg (.inl rfl)); have n3_ := Aside0.mk (Kd.R_after (v := (.slice (some ⟨go48, 0, none⟩) x10_30.length co33)) (v1 := (.slice (some ⟨go48, 0, none⟩) x10_30.length co33)) (ok := (fun k_ => some k_ ≠ (.slice Ao10 t171.length co10 : Value).ownBlock)) (by (with_reducible repeat (first | apply Kd.R_alloc | apply Kd.R_drewN | apply Kd.R_drew)); exact Kd.R_mono HO_178003.out (fun _ hk => ⟨hk.2, hk.1⟩)) hg (.inl rfl)); have n4_ := Aside0.mk (blk_grown (g := gb177) (o := .cells #[.int .i64 t169, .int .i64 t170, .slice Ao10 t171.length co10, .slice Ao11 t174.length co11] 26 (0, 0)) (by (with_reducible repeat (first | refine blk_drewN ?_ _ | refine blk_drew ?_ | refine blk_alloc ?_ _)); exact BK177.out) hg (Kd.R_ne HO_10.out BK177.out (by decide))); have n5_ := Aside0.mk ((by rw [hw]; exact below_set (HB.out) GB48.out : Below w.heap.size w w59)); clear HO_6; clear HO_10; clear HO_178002; clear HO_178003; clear BK177; clear HB; have HO_6 := n0_; have HO_10 := n1_; have HO_178002 := n2_; have HO_178003 := n3_; have BK177 := n4_; have HB := n5_; clear n0_ n1_ n2_ n3_ n4_ n5_; clear hg hw hp_; have hcz60_0 : w59.cell? ⟨gb177, 0, none⟩ = some (.int .i64 t169) := (blk_cell BK177.out 0).trans rfl; have hcz60_1 : w59.cell? ⟨gb177, 1, none⟩ = some (.int .i64 t170) := (blk_cell BK177.out 1).trans rfl; have hcz60_2 : w59.cell? ⟨gb177, 2, none⟩ = some (.slice Ao10 t171.length co10) := (blk_cell BK177.out 2).trans rfl; have hcz60_3 : w59.cell? ⟨gb177, 3, none⟩ = some (.slice Ao11 t174.length co11) := (blk_cell BK177.out 3).trans rfl; have hfz60_0 := blk_frozen BK177.out 0; have hfz60_1 := blk_frozen BK177.out 1; have hfz60_2 := blk_frozen BK177.out 2; have hfz60_3 := blk_frozen BK177.out 3; have p195 : 0 ≤ (x12_30 : Int) := of_decide_eq_true (by first | (with_reducible assumption) | assumption); have q195 : x12_30 < (t174.length : Int) := of_decide_eq_true (by first | (with_reducible assumption) | assumption); obtain ⟨ad195, e195, hx195_0⟩ := Kd.at_int (Kd.R_reads' HO_178003.out).2.2 x12_30 p195 q195; cases e195; replace p195 := eq_true p195; replace q195 := eq_true q195; have p196 : 0 ≤ (x11_3 : Int) := of_decide_eq_true (by first | (with_reducible assumption) | assumption); have q196 : x11_3 < (t178.length : Int) := of_decide_eq_true (by first | (with_reducible assumption) | assumption); obtain ⟨ad196, e196, hx196_0, hx196_1⟩ := at_T32 (Kd.R_reads' HO_6.out).2.2 x11_3 p196 q196; cases e196; replace p196 := eq_true p196; replace q196 := eq_true q196; have p197 : 0 ≤ (x11_3 : Int) := of_decide_eq_true (by first | (with_reducible assumption) | assumption); have q197 : x11_3 < (t178.length : Int) := of_decide_eq_true (by first | (with_reducible assumption) | assumption); obtain ⟨ad197, e197, hx197_0, hx197_1⟩ := at_T32 (Kd.R_reads' HO_6.out).2.2 x11_3 p197 q197; obtain rfl : ad196 = ad197 := (by injection e197); replace p197 := eq_true p197; replace q197 := eq_true q197; have p198 : 0 ≤ ((ji53) : Int) := of_decide_eq_true (by first | (with_reducible assumption) | assumption); have q198 : (ji53) < (t178.length : Int) := of_decide_eq_true (by first | (with_reducible assumption) | assumption); obtain ⟨ad198, e198, hx198_0, hx198_1⟩ := at_T32 (Kd.R_reads' HO_6.out).2.2 (ji53) p198 q198; obtain rfl : ad196 = ad198 := (by injection e198); replace p198 := eq_true p198; replace q198 := eq_true q198; have p199 : 0 ≤ (x11_3 : Int) := of_decide_eq_true (by first | (with_reducible assumption) | assumption); have q199 : x11_3 < (t178.length : Int) := of_decide_eq_true (by first | (with_reducible assumption) | assumption); obtain ⟨ad199, e199, hx199_0, hx199_1⟩ := at_T32 (Kd.R_reads' HO_6.out).2.2 x11_3 p199 q199; obtain rfl : ad196 = ad199 := (by injection e199); replace p199 := eq_true p199; replace q199 := eq_true q199))
                                                    repeat (go_quiet (first | ((with_reducible refine gate_store (t := 2) (p := 107) rfl ?_); (try (rw [drewN_self wc]; generalize hq_ : World.drewN wc _ = wc; have n0_ := Aside0.mk (Kd.R_at hq_ HO_6.out); have n1_ := Aside0.mk (Kd.R_at hq_ HO_10.out); have n2_ := Aside0.mk (Kd.R_at hq_ HO_178002.out); have n3_ := Aside0.mk (Kd.R_at hq_ HO_178003.out); have n4_ := Aside0.mk (blk_at hq_ BK177.out); have n5_ := Aside0.mk (below_at hq_ HB.out); clear hq_ HO_6 HO_10 HO_178002 HO_178003 BK177 HB; have HO_6 := n0_; have HO_10 := n1_; have HO_178002 := n2_; have HO_178003 := n3_; have BK177 := n4_; have HB := n5_; clear n0_ n1_ n2_ n3_ n4_ n5_; (try (have HP58 := Kd.R_putg HO_10.out (x12_30 : Int) (wrap64 ((rd x10_30 x12_30) + 1)))))); refine store_event (t := 2) (p := 107) (v := ?vo_w59) (w1 := (wc.setCell ⟨go48, (x12_30 : Int).toNat, none⟩ (.int .i64 (wrap64 ((rd x10_30 x12_30) + 1))))) ?hg ?ho ?hn ?hr ?_; (case ho => rfl); (case hg => rfl); (case hn => rfl); (case hr => first | (go_simp; done) | (go_simp; rfl)); intro w59 hw; have hg : wc.grownBy w59 (some go48) := (by rw [hw]; exact HP58.2); have hp_ : Kd.R (Kd.int .i64) 2 w59 w.heap.size (fun k_ => some k_ ≠ (.slice Ao10 t171.length co10 : Value).ownBlock ∧ some k_ ≠ (.slice Ao11 t174.length co11 : Value).ownBlock) (.slice (some ⟨go48, 0, none⟩) x10_30.length co33) y194 := (by rw [hw, Ny194.out]; exact HP58.1); clear HP58; have n0_ := Aside0.mk (Kd.R_over' (v := (.slice (some ⟨go48, 0, none⟩) x10_30.length co33)) (by (with_reducible repeat (first | apply Kd.R_alloc | apply Kd.R_drewN | apply Kd.R_drew)); exact HO_6.out) (Kd.R_typed HO_10.out) (by decide) hg); have n1_ := Aside0.mk (hp_); have n2_ := Aside0.mk (Kd.R_after (v := (.slice (some ⟨go48, 0, none⟩) x10_30.length co33)) (v1 := (.slice (some ⟨go48, 0, none⟩) x10_30.length co33)) (ok := (fun k_ => some k_ ≠ (.slice Ao11 t174.length co11 : Value).ownBlock)) (by (with_reducible repeat (first | apply Kd.R_alloc | apply Kd.R_drewN | apply Kd.R_drew)); exact Kd.R_mono HO_178002.out (fun _ hk => ⟨hk.2, hk.1⟩)) hg (.inl rfl)); have n3_ := Aside0.mk (Kd.R_after (v := (.slice (some ⟨go48, 0, none⟩) x10_30.length co33)) (v1 := (.slice (some ⟨go48, 0, none⟩) x10_30.length co33)) (ok := (fun k_ => some k_ ≠ (.slice Ao10 t171.length co10 : Value).ownBlock)) (by (with_reducible repeat (first | apply Kd.R_alloc | apply Kd.R_drewN | apply Kd.R_drew)); exact Kd.R_mono HO_178003.out (fun _ hk => ⟨hk.2, hk.1⟩)) hg (.inl rfl)); have n4_ := Aside0.mk (blk_grown (g := gb177) (o := .cells #[.int .i64 t169, .int .i64 t170, .slice Ao10 t171.length co10, .slice Ao11 t174.length co11] 26 (0, 0)) (by (with_reducible repeat (first | refine blk_drewN ?_ _ | refine blk_drew ?_ | refine blk_alloc ?_ _)); exact BK177.out) hg (Kd.R_ne HO_10.out BK177.out (by decide))); have n5_ := Aside0.mk ((by rw [hw]; exact below_set (HB.out) GB48.out : Below w.heap.size w w59)); clear HO_6; clear HO_10; clear HO_178002; clear HO_178003; clear BK177; clear HB; have HO_6 := n0_; have HO_10 := n1_; have HO_178002 := n2_; have HO_178003 := n3_; have BK177 := n4_; have HB := n5_; clear n0_ n1_ n2_ n3_ n4_ n5_; clear hg hw hp_; have hcz60_0 : w59.cell? ⟨gb177, 0, none⟩ = some (.int .i64 t169) := (blk_cell BK177.out 0).trans rfl; have hcz60_1 : w59.cell? ⟨gb177, 1, none⟩ = some (.int .i64 t170) := (blk_cell BK177.out 1).trans rfl; have hcz60_2 : w59.cell? ⟨gb177, 2, none⟩ = some (.slice Ao10 t171.length co10) := (blk_cell BK177.out 2).trans rfl; have hcz60_3 : w59.cell? ⟨gb177, 3, none⟩ = some (.slice Ao11 t174.length co11) := (blk_cell BK177.out 3).trans rfl; have hfz60_0 := blk_frozen BK177.out 0; have hfz60_1 := blk_frozen BK177.out 1; have hfz60_2 := blk_frozen BK177.out 2; have hfz60_3 := blk_frozen BK177.out 3; have p195 : 0 ≤ (x12_30 : Int) := of_decide_eq_true (by first | (with_reducible assumption) | assumption); have q195 : x12_30 < (t174.length : Int) := of_decide_eq_true (by first | (with_reducible assumption) | assumption); obtain ⟨ad195, e195, hx195_0⟩ := Kd.at_int (Kd.R_reads' HO_178003.out).2.2 x12_30 p195 q195; cases e195; replace p195 := eq_true p195; replace q195 := eq_true q195; have p196 : 0 ≤ (x11_3 : Int) := of_decide_eq_true (by first | (with_reducible assumption) | assumption); have q196 : x11_3 < (t178.length : Int) := of_decide_eq_true (by first | (with_reducible assumption) | assumption); obtain ⟨ad196, e196, hx196_0, hx196_1⟩ := at_T32 (Kd.R_reads' HO_6.out).2.2 x11_3 p196 q196; cases e196; replace p196 := eq_true p196; replace q196 := eq_true q196; have p197 : 0 ≤ (x11_3 : Int) := of_decide_eq_true (by first | (with_reducible assumption) | assumption); have q197 : x11_3 < (t178.length : Int) := of_decide_eq_true (by first | (with_reducible assumption) | assumption); obtain ⟨ad197, e197, hx197_0, hx197_1⟩ := at_T32 (Kd.R_reads' HO_6.out).2.2 x11_3 p197 q197; obtain rfl : ad196 = ad197 := (by injection e197); replace p197 := eq_true p197; replace q197 := eq_true q197; have p198 : 0 ≤ ((ji53) : Int) := of_decide_eq_true (by first | (with_reducible assumption) | assumption); have q198 : (ji53) < (t178.length : Int) := of_decide_eq_true (by first | (with_reducible assumption) | assumption); obtain ⟨ad198, e198, hx198_0, hx198_1⟩ := at_T32 (Kd.R_reads' HO_6.out).2.2 (ji53) p198 q198; obtain rfl : ad196 = ad198 := (by injection e198); replace p198 := eq_true p198; replace q198 := eq_true q198; have p199 : 0 ≤ (x11_3 : Int) := of_decide_eq_true (by first | (with_reducible assumption) | assumption); have q199 : x11_3 < (t178.length : Int) := of_decide_eq_true (by first | (with_reducible assumption) | assumption); obtain ⟨ad199, e199, hx199_0, hx199_1⟩ := at_T32 (Kd.R_reads' HO_6.out).2.2 x11_3 p199 q199; obtain rfl : ad196 = ad199 := (by injection e199); replace p199 := eq_true p199; replace q199 := eq_true q199)); try go_wp2_with (first | ((with_reducible refine gate_store (t := 2) (p := 107) rfl ?_); (try (rw [drewN_self wc]; generalize hq_ : World.drewN wc _ = wc; have n0_ := Aside0.mk (Kd.R_at hq_ HO_6.out); have n1_ := Aside0.mk (Kd.R_at hq_ HO_10.out); have n2_ := Aside0.mk (Kd.R_at hq_ HO_178002.out); have n3_ := Aside0.mk (Kd.R_at hq_ HO_178003.out); have n4_ := Aside0.mk (blk_at hq_ BK177.out); have n5_ := Aside0.mk (below_at hq_ HB.out); clear hq_ HO_6 HO_10 HO_178002 HO_178003 BK177 HB; have HO_6 := n0_; have HO_10 := n1_; have HO_178002 := n2_; have HO_178003 := n3_; have BK177 := n4_; have HB := n5_; clear n0_ n1_ n2_ n3_ n4_ n5_; (try (have HP58 := Kd.R_putg HO_10.out (x12_30 : Int) (wrap64 ((rd x10_30 x12_30) + 1)))))); refine store_event (t := 2) (p := 107) (v := ?vo_w59) (w1 := (wc.setCell ⟨go48, (x12_30 : Int).toNat, none⟩ (.int .i64 (wrap64 ((rd x10_30 x12_30) + 1))))) ?hg ?ho ?hn ?hr ?_; (case ho => rfl); (case hg => rfl); (case hn => rfl); (case hr => first | (go_simp; done) | (go_simp; rfl)); intro w59 hw; have hg : wc.grownBy w59 (some go48) := (by rw [hw]; exact HP58.2); have hp_ : Kd.R (Kd.int .i64) 2 w59 w.heap.size (fun k_ => some k_ ≠ (.slice Ao10 t171.length co10 : Value).ownBlock ∧ some k_ ≠ (.slice Ao11 t174.length co11 : Value).ownBlock) (.slice (some ⟨go48, 0, none⟩) x10_30.length co33) y194 := (by rw [hw, Ny194.out]; exact HP58.1); clear HP58; have n0_ := Aside0.mk (Kd.R_over' (v := (.slice (some ⟨go48, 0, none⟩) x10_30.length co33)) (by (with_reducible repeat (first | apply Kd.R_alloc | apply Kd.R_drewN | apply Kd.R_drew)); exact HO_6.out) (Kd.R_typed HO_10.out) (by decide) hg); have n1_ := Aside0.mk (hp_); have n2_ := Aside0.mk (Kd.R_after (v := (.slice (some ⟨go48, 0, none⟩) x10_30.length co33)) (v1 := (.slice (some ⟨go48, 0, none⟩) x10_30.length co33)) (ok := (fun k_ => some k_ ≠ (.slice Ao11 t174.length co11 : Value).ownBlock)) (by (with_reducible repeat (first | apply Kd.R_alloc | apply Kd.R_drewN | apply Kd.R_drew)); exact Kd.R_mono HO_178002.out (fun _ hk => ⟨hk.2, hk.1⟩)) hg (.inl rfl)); have n3_ := Aside0.mk (Kd.R_after (v := (.slice (some ⟨go48, 0, none⟩) x10_30.length co33)) (v1 := (.slice (some ⟨go48, 0, none⟩) x10_30.length co33)) (ok := (fun k_ => some k_ ≠ (.slice Ao10 t171.length co10 : Value).ownBlock)) (by (with_reducible repeat (first | apply Kd.R_alloc | apply Kd.R_drewN | apply Kd.R_drew)); exact Kd.R_mono HO_178003.out (fun _ hk => ⟨hk.2, hk.1⟩)) hg (.inl rfl)); have n4_ := Aside0.mk (blk_grown (g := gb177) (o := .cells #[.int .i64 t169, .int .i64 t170, .slice Ao10 t171.length co10, .slice Ao11 t174.length co11] 26 (0, 0)) (by (with_reducible repeat (first | refine blk_drewN ?_ _ | refine blk_drew ?_ | refine blk_alloc ?_ _)); exact BK177.out) hg (Kd.R_ne HO_10.out BK177.out (by decide))); have n5_ := Aside0.mk ((by rw [hw]; exact below_set (HB.out) GB48.out : Below w.heap.size w w59)); clear HO_6; clear HO_10; clear HO_178002; clear HO_178003; clear BK177; clear HB; have HO_6 := n0_; have HO_10 := n1_; have HO_178002 := n2_; have HO_178003 := n3_; have BK177 := n4_; have HB := n5_; clear n0_ n1_ n2_ n3_ n4_ n5_; clear hg hw hp_; have hcz60_0 : w59.cell? ⟨gb177, 0, none⟩ = some (.int .i64 t169) := (blk_cell BK177.out 0).trans rfl; have hcz60_1 : w59.cell? ⟨gb177, 1, none⟩ = some (.int .i64 t170) := (blk_cell BK177.out 1).trans rfl; have hcz60_2 : w59.cell? ⟨gb177, 2, none⟩ = some (.slice Ao10 t171.length co10) := (blk_cell BK177.out 2).trans rfl; have hcz60_3 : w59.cell? ⟨gb177, 3, none⟩ = some (.slice Ao11 t174.length co11) := (blk_cell BK177.out 3).trans rfl; have hfz60_0 := blk_frozen BK177.out 0; have hfz60_1 := blk_frozen BK177.out 1; have hfz60_2 := blk_frozen BK177.out 2; have hfz60_3 := blk_frozen BK177.out 3; have p195 : 0 ≤ (x12_30 : Int) := of_decide_eq_true (by first | (with_reducible assumption) | assumption); have q195 : x12_30 < (t174.length : Int) := of_decide_eq_true (by first | (with_reducible assumption) | assumption); obtain ⟨ad195, e195, hx195_0⟩ := Kd.at_int (Kd.R_reads' HO_178003.out).2.2 x12_30 p195 q195; cases e195; replace p195 := eq_true p195; replace q195 := eq_true q195; have p196 : 0 ≤ (x11_3 : Int) := of_decide_eq_true (by first | (with_reducible assumption) | assumption); have q196 : x11_3 < (t178.length : Int) := of_decide_eq_true (by first | (with_reducible assumption) | assumption); obtain ⟨ad196, e196, hx196_0, hx196_1⟩ := at_T32 (Kd.R_reads' HO_6.out).2.2 x11_3 p196 q196; cases e196; replace p196 := eq_true p196; replace q196 := eq_true q196; have p197 : 0 ≤ (x11_3 : Int) := of_decide_eq_true (by first | (with_reducible assumption) | assumption); have q197 : x11_3 < (t178.length : Int) := of_decide_eq_true (by first | (with_reducible assumption) | assumption); obtain ⟨ad197, e197, hx197_0, hx197_1⟩ := at_T32 (Kd.R_reads' HO_6.out).2.2 x11_3 p197 q197; obtain rfl : ad196 = ad197 := (by injection e197); replace p197 := eq_true p197; replace q197 := eq_true q197; have p198 : 0 ≤ ((ji53) : Int) := of_decide_eq_true (by first | (with_reducible assumption) | assumption); have q198 : (ji53) < (t178.length : Int) := of_decide_eq_true (by first | (with_reducible assumption) | assumption); obtain ⟨ad198, e198, hx198_0, hx198_1⟩ := at_T32 (Kd.R_reads' HO_6.out).2.2 (ji53) p198 q198; obtain rfl : ad196 = ad198 := (by injection e198); replace p198 := eq_true p198; replace q198 := eq_true q198; have p199 : 0 ≤ (x11_3 : Int) := of_decide_eq_true (by first | (with_reducible assumption) | assumption); have q199 : x11_3 < (t178.length : Int) := of_decide_eq_true (by first | (with_reducible assumption) | assumption); obtain ⟨ad199, e199, hx199_0, hx199_1⟩ := at_T32 (Kd.R_reads' HO_6.out).2.2 x11_3 p199 q199; obtain rfl : ad196 = ad199 := (by injection e199); replace p199 := eq_true p199; replace q199 := eq_true q199)))
                                                    go_ret
                                                    exact ⟨by first | rfl | (simp [errW_none, errW_some] <;> rfl) | (simp only [← hji53]; first | rfl | (simp [errW_none, errW_some] <;> rfl)) | (simp [*, errW_none, errW_some] <;> rfl), by repeat (first | (with_reducible first | exact HB.out | apply below_alloc | apply pw_below_drewN | apply below_drew1 | refine below_set ?_ GE177.out) | exact HB.out)⟩
                                                  · rw [if_neg c57] at H
                                                    have c57b0 : decide (((rd_T32 t178 x11_3).f1) < 0) = false := decide_eq_false c57
                                                    clear c57
                                                    by_cases c61 : ((rd_T32 t178 x11_3).f1) ≥ 64
                                                    · rw [if_pos c61] at H
                                                      have c61b0 : decide (64 ≤ ((rd_T32 t178 x11_3).f1)) = true := decide_eq_true c61
                                                      clear c61
                                                      obtain rfl := Option.some.inj H
                                                      have p193 : 0 ≤ (x12_30 : Int) := of_decide_eq_true (by first | (with_reducible assumption) | assumption)
                                                      have q193 : x12_30 < (x10_30.length : Int) := of_decide_eq_true (by first | (with_reducible assumption) | assumption)
                                                      obtain ⟨ad193, e193, hx193_0⟩ := Kd.at_int (Kd.R_reads' HO_10.out).2.2 x12_30 p193 q193
                                                      cases e193
                                                      replace p193 := eq_true p193
                                                      replace q193 := eq_true q193
                                                      have p48 : 0 ≤ (x12_30 : Int) := of_decide_eq_true (by first | (with_reducible assumption) | assumption)
                                                      have q48 : (x12_30 : Int) < ((x10_30.length : Int) : Int) := of_decide_eq_true (by first | (with_reducible assumption) | assumption)
                                                      obtain ⟨go48, co48, eo48, gb48, gl48, cl48, HG48⟩ := Kd.R_form HO_10.out (by omega)
                                                      (first | cases eo48 | (injection eo48 with ea_ en_ ec_; (first | subst ea_ | (injection ea_ with ea_; subst ea_)); subst ec_; clear en_))
                                                      have GB48 := Aside0.mk gb48
                                                      have GG48 := Aside0.mk HG48
                                                      clear gb48 gl48 HG48
                                                      (first | simp only [add_plain] at hx193_0 | skip)
                                                      obtain ⟨hx48_0, hf48_0⟩ := Kd.R_celln 0 HO_10.out (x12_30 : Int) p48 q48
                                                      replace p48 := eq_true p48
                                                      replace q48 := eq_true q48
                                                      have HP62 := Kd.R_putg HO_10.out (x12_30 : Int) (wrap64 ((rd x10_30 x12_30) + 1))
                                                      go_wp2_with (first | ((with_reducible refine gate_store (t := 2) (p := 107) rfl ?_); (try (rw [drewN_self wc]; generalize hq_ : World.drewN wc _ = wc; have n0_ := Aside0.mk (Kd.R_at hq_ HO_6.out); have n1_ := Aside0.mk (Kd.R_at hq_ HO_10.out); have n2_ := Aside0.mk (Kd.R_at hq_ HO_178002.out); have n3_ := Aside0.mk (Kd.R_at hq_ HO_178003.out); have n4_ := Aside0.mk (blk_at hq_ BK177.out); have n5_ := Aside0.mk (below_at hq_ HB.out); clear hq_ HO_6 HO_10 HO_178002 HO_178003 BK177 HB; have HO_6 := n0_; have HO_10 := n1_; have HO_178002 := n2_; have HO_178003 := n3_; have BK177 := n4_; have HB := n5_; clear n0_ n1_ n2_ n3_ n4_ n5_; (try (have HP62 := Kd.R_putg HO_10.out (x12_30 : Int) (wrap64 ((rd x10_30 x12_30) + 1)))))); refine store_event (t := 2) (p := 107) (v := ?vo_w63) (w1 := (wc.setCell ⟨go48, (x12_30 : Int).toNat, none⟩ (.int .i64 (wrap64 ((rd x10_30 x12_30) + 1))))) ?hg ?ho ?hn ?hr ?_; (case ho => rfl); (case hg => rfl); (case hn => rfl); (case hr => first | (go_simp; done) | (go_simp; rfl)); intro w63 hw; have hg : wc.grownBy w63 (some go48) := (by rw [hw]; exact HP62.2); have hp_ : Kd.R (Kd.int .i64) 2 w63 w.heap.size (fun k_ => some k_ ≠ (.slice Ao10 t171.length co10 : Value).ownBlock ∧ some k_ ≠ (.slice Ao11 t174.length co11 : Value).ownBlock) (.slice (some ⟨go48, 0, none⟩) x10_30.length co33) y194 := (by rw [hw, Ny194.out]; exact HP62.1); clear HP62; have n0_ := Aside0.mk (Kd.R_over' (v := (.slice (some ⟨go48, 0, none⟩) x10_30.length co33)) (by (with_reducible repeat (first | apply Kd.R_alloc | apply Kd.R_drewN | apply Kd.R_drew)); exact HO_6.out) (Kd.R_typed HO_10.out) (by decide) hg); have n1_ := Aside0.mk (hp_); have n2_ := Aside0.mk (Kd.R_after (v := (.slice (some ⟨go48, 0, none⟩) x10_30.length co33)) (v1 := (.slice (some ⟨go48, 0, none⟩) x10_30.length co33)) (ok := (fun k_ => some k_ ≠ (.slice Ao11 t174.length co11 : Value).ownBlock)) (by (with_reducible repeat (first | apply Kd.R_alloc | apply Kd.R_drewN | apply Kd.R_drew)); exact Kd.R_mono HO_178002.out (fun _ hk => ⟨hk.2, hk.1⟩)) hg (.inl rfl)); have n3_ := Aside0.mk (Kd.R_after (v := (.slice (some ⟨go48, 0, none⟩) x10_30.length co33)) (v1 := (.slice (some ⟨go48, 0, none⟩) x10_30.length co33)) (ok := (fun k_ => some k_ ≠ (.slice Ao10 t171.length co10 : Value).ownBlock)) (by (with_reducible repeat (first | apply Kd.R_alloc | apply Kd.R_drewN | apply Kd.R_drew)); exact Kd.R_mono HO_178003.out (fun _ hk => ⟨hk.2, hk.1⟩)) hg (.inl rfl)); have n4_ := Aside0.mk (blk_grown (g := gb177) (o := .cells #[.int .i64 t169, .int .i64 t170, .slice Ao10 t171.length co10, .slice Ao11 t174.length co11] 26 (0, 0)) (by (with_reducible repeat (first | refine blk_drewN ?_ _ | refine blk_drew ?_ | refine blk_alloc ?_ _)); exact BK177.out) hg (Kd.R_ne HO_10.out BK177.out (by decide))); have n5_ := Aside0.mk ((by rw [hw]; exact below_set (HB.out) GB48.out : Below w.heap.size w w63)); clear HO_6; clear HO_10; clear HO_178002; clear HO_178003; clear BK177; clear HB; have HO_6 := n0_; have HO_10 := n1_; have HO_178002 := n2_; have HO_178003 := n3_; have BK177 := n4_; have HB := n5_; clear n0_ n1_ n2_ n3_ n4_ n5_; clear hg hw hp_; have hcz64_0 : w63.cell? ⟨gb177, 0, none⟩ = some (.int .i64 t169) := (blk_cell BK177.out 0).trans rfl; have hcz64_1 : w63.cell? ⟨gb177, 1, none⟩ = some (.int .i64 t170) := (blk_cell BK177.out 1).trans rfl; have hcz64_2 : w63.cell? ⟨gb177, 2, none⟩ = some (.slice Ao10 t171.length co10) := (blk_cell BK177.out 2).trans rfl; have hcz64_3 : w63.cell? ⟨gb177, 3, none⟩ = some (.slice Ao11 t174.length co11) := (blk_cell BK177.out 3).trans rfl; have hfz64_0 := blk_frozen BK177.out 0; have hfz64_1 := blk_frozen BK177.out 1; have hfz64_2 := blk_frozen BK177.out 2; have hfz64_3 := blk_frozen BK177.out 3; have p195 : 0 ≤ (x12_30 : Int) := of_decide_eq_true (by first | (with_reducible assumption) | assumption); have q195 : x12_30 < (t174.length : Int) := of_decide_eq_true (by first | (with_reducible assumption) | assumption); obtain ⟨ad195, e195, hx195_0⟩ := Kd.at_int (Kd.R_reads' HO_178003.out).2.2 x12_30 p195 q195; cases e195; replace p195 := eq_true p195; replace q195 := eq_true q195; have p196 : 0 ≤ (x11_3 : Int) := of_decide_eq_true (by first | (with_reducible assumption) | assumption); have q196 : x11_3 < (t178.length : Int) := of_decide_eq_true (by first | (with_reducible assumption) | assumption); obtain ⟨ad196, e196, hx196_0, hx196_1⟩ := at_T32 (Kd.R_reads' HO_6.out).2.2 x11_3 p196 q196; cases e196; replace p196 := eq_true p196; replace q196 := eq_true q196; have p197 : 0 ≤ (x11_3 : Int) := of_decide_eq_true (by first | (with_reducible assumption) | assumption); have q197 : x11_3 < (t178.length : Int) := of_decide_eq_true (by first | (with_reducible assumption) | assumption); obtain ⟨ad197, e197, hx197_0, hx197_1⟩ := at_T32 (Kd.R_reads' HO_6.out).2.2 x11_3 p197 q197; obtain rfl : ad196 = ad197 := (by injection e197); replace p197 := eq_true p197; replace q197 := eq_true q197; have p198 : 0 ≤ ((ji53) : Int) := of_decide_eq_true (by first | (with_reducible assumption) | assumption); have q198 : (ji53) < (t178.length : Int) := of_decide_eq_true (by first | (with_reducible assumption) | assumption); obtain ⟨ad198, e198, hx198_0, hx198_1⟩ := at_T32 (Kd.R_reads' HO_6.out).2.2 (ji53) p198 q198; obtain rfl : ad196 = ad198 := (by injection e198); replace p198 := eq_true p198; replace q198 := eq_true q198; have p199 : 0 ≤ (x11_3 : Int) := of_decide_eq_true (by first | (with_reducible assumption) | assumption); have q199 : x11_3 < (t178.length : Int) := of_decide_eq_true (by first | (with_reducible assumption) | assumption); obtain ⟨ad199, e199, hx199_0, hx199_1⟩ := at_T32 (Kd.R_reads' HO_6.out).2.2 x11_3 p199 q199; obtain rfl : ad196 = ad199 := (by injection e199); replace p199 := eq_true p199; replace q199 := eq_true q199; have p200 : 0 ≤ (x11_3 : Int) := of_decide_eq_true (by first | (with_reducible assumption) | assumption); have q200 : x11_3 < (t178.length : Int) := of_decide_eq_true (by first | (with_reducible assumption) | assumption); obtain ⟨ad200, e200, hx200_0, hx200_1⟩ := at_T32 (Kd.R_reads' HO_6.out).2.2 x11_3 p200 q200; obtain rfl : ad196 = ad200 := (by injection e200); replace p200 := eq_true p200; replace q200 := eq_true q200))
                                                      repeat (go_quiet (first | ((with_reducible refine gate_store (t := 2) (p := 107) rfl ?_); (try (rw [drewN_self wc]; generalize hq_ : World.drewN wc _ = wc; have n0_ := Aside0.mk (Kd.R_at hq_ HO_6.out); have n1_ := Aside0.mk (Kd.R_at hq_ HO_10.out); have n2_ := Aside0.mk (Kd.R_at hq_ HO_178002.out); have n3_ := Aside0.mk (Kd.R_at hq_ HO_178003.out); have n4_ := Aside0.mk (blk_at hq_ BK177.out); have n5_ := Aside0.mk (below_at hq_ HB.out); clear hq_ HO_6 HO_10 HO_178002 HO_178003 BK177 HB; have HO_6 := n0_; have HO_10 := n1_; have HO_178002 := n2_; have HO_178003 := n3_; have BK177 := n4_; have HB := n5_; clear n0_ n1_ n2_ n3_ n4_ n5_; (try (have HP62 := Kd.R_putg HO_10.out (x12_30 : Int) (wrap64 ((rd x10_30 x12_30) + 1)))))); refine store_event (t := 2) (p := 107) (v := ?vo_w63) (w1 := (wc.setCell ⟨go48, (x12_30 : Int).toNat, none⟩ (.int .i64 (wrap64 ((rd x10_30 x12_30) + 1))))) ?hg ?ho ?hn ?hr ?_; (case ho => rfl); (case hg => rfl); (case hn => rfl); (case hr => first | (go_simp; done) | (go_simp; rfl)); intro w63 hw; have hg : wc.grownBy w63 (some go48) := (by rw [hw]; exact HP62.2); have hp_ : Kd.R (Kd.int .i64) 2 w63 w.heap.size (fun k_ => some k_ ≠ (.slice Ao10 t171.length co10 : Value).ownBlock ∧ some k_ ≠ (.slice Ao11 t174.length co11 : Value).ownBlock) (.slice (some ⟨go48, 0, none⟩) x10_30.length co33) y194 := (by rw [hw, Ny194.out]; exact HP62.1); clear HP62; have n0_ := Aside0.mk (Kd.R_over' (v := (.slice (some ⟨go48, 0, none⟩) x10_30.length co33)) (by (with_reducible repeat (first | apply Kd.R_alloc | apply Kd.R_drewN | apply Kd.R_drew)); exact HO_6.out) (Kd.R_typed HO_10.out) (by decide) hg); have n1_ := Aside0.mk (hp_); have n2_ := Aside0.mk (Kd.R_after (v := (.slice (some ⟨go48, 0, none⟩) x10_30.length co33)) (v1 := (.slice (some ⟨go48, 0, none⟩) x10_30.length co33)) (ok := (fun k_ => some k_ ≠ (.slice Ao11 t174.length co11 : Value).ownBlock)) (by (with_reducible repeat (first | apply Kd.R_alloc | apply Kd.R_drewN | apply Kd.R_drew)); exact Kd.R_mono HO_178002.out (fun _ hk => ⟨hk.2, hk.1⟩)) hg (.inl rfl)); have n3_ := Aside0.mk (Kd.R_after (v := (.slice (some ⟨go48, 0, none⟩) x10_30.length co33)) (v1 := (.slice (some ⟨go48, 0, none⟩) x10_30.length co33)) (ok := (fun k_ => some k_ ≠ (.slice Ao10 t171.length co10 : Value).ownBlock)) (by (with_reducible repeat (first | apply Kd.R_alloc | apply Kd.R_drewN | apply Kd.R_drew)); exact Kd.R_mono HO_178003.out (fun _ hk => ⟨hk.2, hk.1⟩)) hg (.inl rfl)); have n4_ := Aside0.mk (blk_grown (g := gb177) (o := .cells #[.int .i64 t169, .int .i64 t170, .slice Ao10 t171.length co10, .slice Ao11 t174.length co11] 26 (0, 0)) (by (with_reducible repeat (first | refine blk_drewN ?_ _ | refine blk_drew ?_ | refine blk_alloc ?_ _)); exact BK177.out) hg (Kd.R_ne HO_10.out BK177.out (by decide))); have n5_ := Aside0.mk ((by rw [hw]; exact below_set (HB.out) GB48.out : Below w.heap.size w w63)); clear HO_6; clear HO_10; clear HO_178002; clear HO_178003; clear BK177; clear HB; have HO_6 := n0_; have HO_10 := n1_; have HO_178002 := n2_; have HO_178003 := n3_; have BK177 := n4_; have HB := n5_; clear n0_ n1_ n2_ n3_ n4_ n5_; clear hg hw hp_; have hcz64_0 : w63.cell? ⟨gb177, 0, none⟩ = some (.int .i64 t169) := (blk_cell BK177.out 0).trans rfl; have hcz64_1 : w63.cell? ⟨gb177, 1, none⟩ = some (.int .i64 t170) := (blk_cell BK177.out 1).trans rfl; have hcz64_2 : w63.cell? ⟨gb177, 2, none⟩ = some (.slice Ao10 t171.length co10) := (blk_cell BK177.out 2).trans rfl; have hcz64_3 : w63.cell? ⟨gb177, 3, none⟩ = some (.slice Ao11 t174.length co11) := (blk_cell BK177.out 3).trans rfl; have hfz64_0 := blk_frozen BK177.out 0; have hfz64_1 := blk_frozen BK177.out 1; have hfz64_2 := blk_frozen BK177.out 2; have hfz64_3 := blk_frozen BK177.out 3; have p195 : 0 ≤ (x12_30 : Int) := of_decide_eq_true (by first | (with_reducible assumption) | assumption); have q195 : x12_30 < (t174.length : Int) := of_decide_eq_true (by first | (with_reducible assumption) | assumption); obtain ⟨ad195, e195, hx195_0⟩ := Kd.at_int (Kd.R_reads' HO_178003.out).2.2 x12_30 p195 q195; cases e195; replace p195 := eq_true p195; replace q195 := eq_true q195; have p196 : 0 ≤ (x11_3 : Int) := of_decide_eq_true (by first | (with_reducible assumption) | assumption); have q196 : x11_3 < (t178.length : Int) := of_decide_eq_true (by first | (with_reducible assumption) | assumption); obtain ⟨ad196, e196, hx196_0, hx196_1⟩ := at_T32 (Kd.R_reads' HO_6.out).2.2 x11_3 p196 q196; cases e196; replace p196 := eq_true p196; replace q196 := eq_true q196; have p197 : 0 ≤ (x11_3 : Int) := of_decide_eq_true (by first | (with_reducible assumption) | assumption); have q197 : x11_3 < (t178.length : Int) := of_decide_eq_true (by first | (with_reducible assumption) | assumption); obtain ⟨ad197, e197, hx197_0, hx197_1⟩ := at_T32 (Kd.R_reads' HO_6.out).2.2 x11_3 p197 q197; obtain rfl : ad196 = ad197 := (by injection e197); replace p197 := eq_true p197; replace q197 := eq_true q197; have p198 : 0 ≤ ((ji53) : Int) := of_decide_eq_true (by first | (with_reducible assumption) | assumption); have q198 : (ji53) < (t178.length : Int) := of_decide_eq_true (by first | (with_reducible assumption) | assumption); obtain ⟨ad198, e198, hx198_0, hx198_1⟩ := at_T32 (Kd.R_reads' HO_6.out).2.2 (ji53) p198 q198; obtain rfl : ad196 = ad198 := (by injection e198); replace p198 := eq_true p198; replace q198 := eq_true q198; have p199 : 0 ≤ (x11_3 : Int) := of_decide_eq_true (by first | (with_reducible assumption) | assumption); have q199 : x11_3 < (t178.length : Int) := of_decide_eq_true (by first | (with_reducible assumption) | assumption); obtain ⟨ad199, e199, hx199_0, hx199_1⟩ := at_T32 (Kd.R_reads' HO_6.out).2.2 x11_3 p199 q199; obtain rfl : ad196 = ad199 := (by injection e199); replace p199 := eq_true p199; replace q199 := eq_true q199; have p200 : 0 ≤ (x11_3 : Int) := of_decide_eq_true (by first | (with_reducible assumption) | assumption); have q200 : x11_3 < (t178.length : Int) := of_decide_eq_true (by first | (with_reducible assumption) | assumption); obtain ⟨ad200, e200, hx200_0, hx200_1⟩ := at_T32 (Kd.R_reads' HO_6.out).2.2 x11_3 p200 q200; obtain rfl : ad196 = ad200 := (by injection e200); replace p200 := eq_true p200; replace q200 := eq_true q200)); try go_wp2_with (first | ((with_reducible refine gate_store (t := 2) (p := 107) rfl ?_); (try (rw [drewN_self wc]; generalize hq_ : World.drewN wc _ = wc; have n0_ := Aside0.mk (Kd.R_at hq_ HO_6.out); have n1_ := Aside0.mk (Kd.R_at hq_ HO_10.out); have n2_ := Aside0.mk (Kd.R_at hq_ HO_178002.out); have n3_ := Aside0.mk (Kd.R_at hq_ HO_178003.out); have n4_ := Aside0.mk (blk_at hq_ BK177.out); have n5_ := Aside0.mk (below_at hq_ HB.out); clear hq_ HO_6 HO_10 HO_178002 HO_178003 BK177 HB; have HO_6 := n0_; have HO_10 := n1_; have HO_178002 := n2_; have HO_178003 := n3_; have BK177 := n4_; have HB := n5_; clear n0_ n1_ n2_ n3_ n4_ n5_; (try (have HP62 := Kd.R_putg HO_10.out (x12_30 : Int) (wrap64 ((rd x10_30 x12_30) + 1)))))); refine store_event (t := 2) (p := 107) (v := ?vo_w63) (w1 := (wc.setCell ⟨go48, (x12_30 : Int).toNat, none⟩ (.int .i64 (wrap64 ((rd x10_30 x12_30) + 1))))) ?hg ?ho ?hn ?hr ?_; (case ho => rfl); (case hg => rfl); (case hn => rfl); (case hr => first | (go_simp; done) | (go_simp; rfl)); intro w63 hw; have hg : wc.grownBy w63 (some go48) := (by rw [hw]; exact HP62.2); have hp_ : Kd.R (Kd.int .i64) 2 w63 w.heap.size (fun k_ => some k_ ≠ (.slice Ao10 t171.length co10 : Value).ownBlock ∧ some k_ ≠ (.slice Ao11 t174.length co11 : Value).ownBlock) (.slice (some ⟨go48, 0, none⟩) x10_30.length co33) y194 := (by rw [hw, Ny194.out]; exact HP62.1); clear HP62; have n0_ := Aside0.mk (Kd.R_over' (v := (.slice (some ⟨go48, 0, none⟩) x10_30.length co33)) (by (with_reducible repeat (first | apply Kd.R_alloc | apply Kd.R_drewN | apply Kd.R_drew)); exact HO_6.out) (Kd.R_typed HO_10.out) (by decide) hg); have n1_ := Aside0.mk (hp_); have n2_ := Aside0.mk (Kd.R_after (v := (.slice (some ⟨go48, 0, none⟩) x10_30.length co33)) (v1 := (.slice (some ⟨go48, 0, none⟩) x10_30.length co33)) (ok := (fun k_ => some k_ ≠ (.slice Ao11 t174.length co11 : Value).ownBlock)) (by (with_reducible repeat (first | apply Kd.R_alloc | apply Kd.R_drewN | apply Kd.R_drew)); exact Kd.R_mono HO_178002.out (fun _ hk => ⟨hk.2, hk.1⟩)) hg (.inl rfl)); have n3_ := Aside0.mk (Kd.R_after (v := (.slice (some ⟨go48, 0, none⟩) x10_30.length co33)) (v1 := (.slice (some ⟨go48, 0, none⟩) x10_30.length co33)) (ok := (fun k_ => some k_ ≠ (.slice Ao10 t171.length co10 : Value).ownBlock)) (by (with_reducible repeat (first | apply Kd.R_alloc | apply Kd.R_drewN | apply Kd.R_drew)); exact Kd.R_mono HO_178003.out (fun _ hk => ⟨hk.2, hk.1⟩)) hg (.inl rfl)); have n4_ := Aside0.mk (blk_grown (g := gb177) (o := .cells #[.int .i64 t169, .int .i64 t170, .slice Ao10 t171.length co10, .slice Ao11 t174.length co11] 26 (0, 0)) (by (with_reducible repeat (first | refine blk_drewN ?_ _ | refine blk_drew ?_ | refine blk_alloc ?_ _)); exact BK177.out) hg (Kd.R_ne HO_10.out BK177.out (by decide))); have n5_ := Aside0.mk ((by rw [hw]; exact below_set (HB.out) GB48.out : Below w.heap.size w w63)); clear HO_6; clear HO_10; clear HO_178002; clear HO_178003; clear BK177; clear HB; have HO_6 := n0_; have HO_10 := n1_; have HO_178002 := n2_; have HO_178003 := n3_; have BK177 := n4_; have HB := n5_; clear n0_ n1_ n2_ n3_ n4_ n5_; clear hg hw hp_; have hcz64_0 : w63.cell? ⟨gb177, 0, none⟩ = some (.int .i64 t169) := (blk_cell BK177.out 0).trans rfl; have hcz64_1 : w63.cell? ⟨gb177, 1, none⟩ = some (.int .i64 t170) := (blk_cell BK177.out 1).trans rfl; have hcz64_2 : w63.cell? ⟨gb177, 2, none⟩ = some (.slice Ao10 t171.length co10) := (blk_cell BK177.out 2).trans rfl; have hcz64_3 : w63.cell? ⟨gb177, 3, none⟩ = some (.slice Ao11 t174.length co11) := (blk_cell BK177.out 3).trans rfl; have hfz64_0 := blk_frozen BK177.out 0; have hfz64_1 := blk_frozen BK177.out 1; have hfz64_2 := blk_frozen BK177.out 2; have hfz64_3 := blk_frozen BK177.out 3; have p195 : 0 ≤ (x12_30 : Int) := of_decide_eq_true (by first | (with_reducible assumption) | assumption); have q195 : x12_30 < (t174.length : Int) := of_decide_eq_true (by first | (with_reducible assumption) | assumption); obtain ⟨ad195, e195, hx195_0⟩ := Kd.at_int (Kd.R_reads' HO_178003.out).2.2 x12_30 p195 q195; cases e195; replace p195 := eq_true p195; replace q195 := eq_true q195; have p196 : 0 ≤ (x11_3 : Int) := of_decide_eq_true (by first | (with_reducible assumption) | assumption); have q196 : x11_3 < (t178.length : Int) := of_decide_eq_true (by first | (with_reducible assumption) | assumption); obtain ⟨ad196, e196, hx196_0, hx196_1⟩ := at_T32 (Kd.R_reads' HO_6.out).2.2 x11_3 p196 q196; cases e196; replace p196 := eq_true p196; replace q196 := eq_true q196; have p197 : 0 ≤ (x11_3 : Int) := of_decide_eq_true (by first | (with_reducible assumption) | assumption); have q197 : x11_3 < (t178.length : Int) := of_decide_eq_true (by first | (with_reducible assumption) | assumption); obtain ⟨ad197, e197, hx197_0, hx197_1⟩ := at_T32 (Kd.R_reads' HO_6.out).2.2 x11_3 p197 q197; obtain rfl : ad196 = ad197 := (by injection e197); replace p197 := eq_true p197; replace q197 := eq_true q197; have p198 : 0 ≤ ((ji53) : Int) := of_decide_eq_true (by first | (with_reducible assumption) | assumption); have q198 : (ji53) < (t178.length : Int) := of_decide_eq_true (by first | (with_reducible assumption) | assumption); obtain ⟨ad198, e198, hx198_0, hx198_1⟩ := at_T32 (Kd.R_reads' HO_6.out).2.2 (ji53) p198 q198; obtain rfl : ad196 = ad198 := (by injection e198); replace p198 := eq_true p198; replace q198 := eq_true q198; have p199 : 0 ≤ (x11_3 : Int) := of_decide_eq_true (by first | (with_reducible assumption) | assumption); have q199 : x11_3 < (t178.length : Int) := of_decide_eq_true (by first | (with_reducible assumption) | assumption); obtain ⟨ad199, e199, hx199_0, hx199_1⟩ := at_T32 (Kd.R_reads' HO_6.out).2.2 x11_3 p199 q199; obtain rfl : ad196 = ad199 := (by injection e199); replace p199 := eq_true p199; replace q199 := eq_true q199; have p200 : 0 ≤ (x11_3 : Int) := of_decide_eq_true (by first | (with_reducible assumption) | assumption); have q200 : x11_3 < (t178.length : Int) := of_decide_eq_true (by first | (with_reducible assumption) | assumption); obtain ⟨ad200, e200, hx200_0, hx200_1⟩ := at_T32 (Kd.R_reads' HO_6.out).2.2 x11_3 p200 q200; obtain rfl : ad196 = ad200 := (by injection e200); replace p200 := eq_true p200; replace q200 := eq_true q200)))
                                                      go_ret
                                                      exact ⟨by first | rfl | (simp [errW_none, errW_some] <;> rfl) | (simp only [← hji53]; first | rfl | (simp [errW_none, errW_some] <;> rfl)) | (simp [*, errW_none, errW_some] <;> rfl), by repeat (first | (with_reducible first | exact HB.out | apply below_alloc | apply pw_below_drewN | apply below_drew1 | refine below_set ?_ GE177.out) | exact HB.out)⟩
                                                    · rw [if_neg c61] at H
                                                      have c61b0 : decide (64 ≤ ((rd_T32 t178 x11_3).f1)) = false := decide_eq_false c61
                                                      clear c61
                                                      have H' := Aside0.mk H
                                                      clear H
                                                      have p193 : 0 ≤ (x12_30 : Int) := of_decide_eq_true (by first | (with_reducible assumption) | assumption)
                                                      have q193 : x12_30 < (x10_30.length : Int) := of_decide_eq_true (by first | (with_reducible assumption) | assumption)
                                                      obtain ⟨ad193, e193, hx193_0⟩ := Kd.at_int (Kd.R_reads' HO_10.out).2.2 x12_30 p193 q193
                                                      cases e193
                                                      replace p193 := eq_true p193
                                                      replace q193 := eq_true q193
                                                      have p48 : 0 ≤ (x12_30 : Int) := of_decide_eq_true (by first | (with_reducible assumption) | assumption)
                                                      have q48 : (x12_30 : Int) < ((x10_30.length : Int) : Int) := of_decide_eq_true (by first | (with_reducible assumption) | assumption)
                                                      obtain ⟨go48, co48, eo48, gb48, gl48, cl48, HG48⟩ := Kd.R_form HO_10.out (by omega)
                                                      (first | cases eo48 | (injection eo48 with ea_ en_ ec_; (first | subst ea_ | (injection ea_ with ea_; subst ea_)); subst ec_; clear en_))
                                                      have GB48 := Aside0.mk gb48
                                                      have GG48 := Aside0.mk HG48
                                                      clear gb48 gl48 HG48
                                                      (first | simp only [add_plain] at hx193_0 | skip)
                                                      obtain ⟨hx48_0, hf48_0⟩ := Kd.R_celln 0 HO_10.out (x12_30 : Int) p48 q48
                                                      replace p48 := eq_true p48
                                                      replace q48 := eq_true q48
                                                      have HP65 := Kd.R_putg HO_10.out (x12_30 : Int) (wrap64 ((rd x10_30 x12_30) + 1))
                                                      go_wp2_with (first | ((with_reducible refine gate_store (t := 2) (p := 107) rfl ?_); (try (rw [drewN_self wc]; generalize hq_ : World.drewN wc _ = wc; have n0_ := Aside0.mk (Kd.R_at hq_ HO_6.out); have n1_ := Aside0.mk (Kd.R_at hq_ HO_10.out); have n2_ := Aside0.mk (Kd.R_at hq_ HO_178002.out); have n3_ := Aside0.mk (Kd.R_at hq_ HO_178003.out); have n4_ := Aside0.mk (blk_at hq_ BK177.out); have n5_ := Aside0.mk (below_at hq_ HB.out); clear hq_ HO_6 HO_10 HO_178002 HO_178003 BK177 HB; have HO_6 := n0_; have HO_10 := n1_; have HO_178002 := n2_; have HO_178003 := n3_; have BK177 := n4_; have HB := n5_; clear n0_ n1_ n2_ n3_ n4_ n5_; (try (have HP65 := Kd.R_putg HO_10.out (x12_30 : Int) (wrap64 ((rd x10_30 x12_30) + 1)))))); refine store_event (t := 2) (p := 107) (v := ?vo_w66) (w1 := (wc.setCell ⟨go48, (x12_30 : Int).toNat, none⟩ (.int .i64 (wrap64 ((rd x10_30 x12_30) + 1))))) ?hg ?ho ?hn ?hr ?_; (case ho => rfl); (case hg => rfl); (case hn => rfl); (case hr => first | (go_simp; done) | (go_simp; rfl)); intro w66 hw; have hg : wc.grownBy w66 (some go48) := (by rw [hw]; exact HP65.2); have hp_ : Kd.R (Kd.int .i64) 2 w66 w.heap.size (fun k_ => some k_ ≠ (.slice Ao10 t171.length co10 : Value).ownBlock ∧ some k_ ≠ (.slice Ao11 t174.length co11 : Value).ownBlock) (.slice (some ⟨go48, 0, none⟩) x10_30.length co33) y194 := (by rw [hw, Ny194.out]; exact HP65.1); clear HP65; have n0_ := Aside0.mk (Kd.R_over' (v := (.slice (some ⟨go48, 0, none⟩) x10_30.length co33)) (by (with_reducible repeat (first | apply Kd.R_alloc | apply Kd.R_drewN | apply Kd.R_drew)); exact HO_6.out) (Kd.R_typed HO_10.out) (by decide) hg); have n1_ := Aside0.mk (hp_); have n2_ := Aside0.mk (Kd.R_after (v := (.slice (some ⟨go48, 0, none⟩) x10_30.length co33)) (v1 := (.slice (some ⟨go48, 0, none⟩) x10_30.length co33)) (ok := (fun k_ => some k_ ≠ (.slice Ao11 t174.length co11 : Value).ownBlock)) (by (with_reducible repeat (first | apply Kd.R_alloc | apply Kd.R_drewN | apply Kd.R_drew)); exact Kd.R_mono HO_178002.out (fun _ hk => ⟨hk.2, hk.1⟩)) hg (.inl rfl)); have n3_ := Aside0.mk (Kd.R_after (v := (.slice (some ⟨go48, 0, none⟩) x10_30.length co33)) (v1 := (.slice (some ⟨go48, 0, none⟩) x10_30.length co33)) (ok := (fun k_ => some k_ ≠ (.slice Ao10 t171.length co10 : Value).ownBlock)) (by (with_reducible repeat (first | apply Kd.R_alloc | apply Kd.R_drewN | apply Kd.R_drew)); exact Kd.R_mono HO_178003.out (fun _ hk => ⟨hk.2, hk.1⟩)) hg (.inl rfl)); have n4_ := Aside0.mk (blk_grown (g := gb177) (o := .cells #[.int .i64 t169, .int .i64 t170, .slice Ao10 t171.length co10, .slice Ao11 t174.length co11] 26 (0, 0)) (by (with_reducible repeat (first | refine blk_drewN ?_ _ | refine blk_drew ?_ | refine blk_alloc ?_ _)); exact BK177.out) hg (Kd.R_ne HO_10.out BK177.out (by decide))); have n5_ := Aside0.mk ((by rw [hw]; exact below_set (HB.out) GB48.out : Below w.heap.size w w66)); clear HO_6; clear HO_10; clear HO_178002; clear HO_178003; clear BK177; clear HB; have HO_6 := n0_; have HO_10 := n1_; have HO_178002 := n2_; have HO_178003 := n3_; have BK177 := n4_; have HB := n5_; clear n0_ n1_ n2_ n3_ n4_ n5_; clear hg hw hp_; have hcz67_0 : w66.cell? ⟨gb177, 0, none⟩ = some (.int .i64 t169) := (blk_cell BK177.out 0).trans rfl; have hcz67_1 : w66.cell? ⟨gb177, 1, none⟩ = some (.int .i64 t170) := (blk_cell BK177.out 1).trans rfl; have hcz67_2 : w66.cell? ⟨gb177, 2, none⟩ = some (.slice Ao10 t171.length co10) := (blk_cell BK177.out 2).trans rfl; have hcz67_3 : w66.cell? ⟨gb177, 3, none⟩ = some (.slice Ao11 t174.length co11) := (blk_cell BK177.out 3).trans rfl; have hfz67_0 := blk_frozen BK177.out 0; have hfz67_1 := blk_frozen BK177.out 1; have hfz67_2 := blk_frozen BK177.out 2; have hfz67_3 := blk_frozen BK177.out 3; have p195 : 0 ≤ (x12_30 : Int) := of_decide_eq_true (by first | (with_reducible assumption) | assumption); have q195 : x12_30 < (t174.length : Int) := of_decide_eq_true (by first | (with_reducible assumption) | assumption); obtain ⟨ad195, e195, hx195_0⟩ := Kd.at_int (Kd.R_reads' HO_178003.out).2.2 x12_30 p195 q195; cases e195; replace p195 := eq_true p195; replace q195 := eq_true q195; have p196 : 0 ≤ (x11_3 : Int) := of_decide_eq_true (by first | (with_reducible assumption) | assumption); have q196 : x11_3 < (t178.length : Int) := of_decide_eq_true (by first | (with_reducible assumption) | assumption); obtain ⟨ad196, e196, hx196_0, hx196_1⟩ := at_T32 (Kd.R_reads' HO_6.out).2.2 x11_3 p196 q196; cases e196; replace p196 := eq_true p196; replace q196 := eq_true q196; have p197 : 0 ≤ (x11_3 : Int) := of_decide_eq_true (by first | (with_reducible assumption) | assumption); have q197 : x11_3 < (t178.length : Int) := of_decide_eq_true (by first | (with_reducible assumption) | assumption); obtain ⟨ad197, e197, hx197_0, hx197_1⟩ := at_T32 (Kd.R_reads' HO_6.out).2.2 x11_3 p197 q197; obtain rfl : ad196 = ad197 := (by injection e197); replace p197 := eq_true p197; replace q197 := eq_true q197; have p198 : 0 ≤ ((ji53) : Int) := of_decide_eq_true (by first | (with_reducible assumption) | assumption); have q198 : (ji53) < (t178.length : Int) := of_decide_eq_true (by first | (with_reducible assumption) | assumption); obtain ⟨ad198, e198, hx198_0, hx198_1⟩ := at_T32 (Kd.R_reads' HO_6.out).2.2 (ji53) p198 q198; obtain rfl : ad196 = ad198 := (by injection e198); replace p198 := eq_true p198; replace q198 := eq_true q198; have p199 : 0 ≤ (x11_3 : Int) := of_decide_eq_true (by first | (with_reducible assumption) | assumption); have q199 : x11_3 < (t178.length : Int) := of_decide_eq_true (by first | (with_reducible assumption) | assumption); obtain ⟨ad199, e199, hx199_0, hx199_1⟩ := at_T32 (Kd.R_reads' HO_6.out).2.2 x11_3 p199 q199; obtain rfl : ad196 = ad199 := (by injection e199); replace p199 := eq_true p199; replace q199 := eq_true q199; have p200 : 0 ≤ (x11_3 : Int) := of_decide_eq_true (by first | (with_reducible assumption) | assumption); have q200 : x11_3 < (t178.length : Int) := of_decide_eq_true (by first | (with_reducible assumption) | assumption); obtain ⟨ad200, e200, hx200_0, hx200_1⟩ := at_T32 (Kd.R_reads' HO_6.out).2.2 x11_3 p200 q200; obtain rfl : ad196 = ad200 := (by injection e200); replace p200 := eq_true p200; replace q200 := eq_true q200))
                                                      repeat (go_quiet (first | ((with_reducible refine gate_store (t := 2) (p := 107) rfl ?_); (try (rw [drewN_self wc]; generalize hq_ : World.drewN wc _ = wc; have n0_ := Aside0.mk (Kd.R_at hq_ HO_6.out); have n1_ := Aside0.mk (Kd.R_at hq_ HO_10.out); have n2_ := Aside0.mk (Kd.R_at hq_ HO_178002.out); have n3_ := Aside0.mk (Kd.R_at hq_ HO_178003.out); have n4_ := Aside0.mk (blk_at hq_ BK177.out); have n5_ := Aside0.mk (below_at hq_ HB.out); clear hq_ HO_6 HO_10 HO_178002 HO_178003 BK177 HB; have HO_6 := n0_; have HO_10 := n1_; have HO_178002 := n2_; have HO_178003 := n3_; have BK177 := n4_; have HB := n5_; clear n0_ n1_ n2_ n3_ n4_ n5_; (try (have HP65 := Kd.R_putg HO_10.out (x12_30 : Int) (wrap64 ((rd x10_30 x12_30) + 1)))))); refine store_event (t := 2) (p := 107) (v := ?vo_w66) (w1 := (wc.setCell ⟨go48, (x12_30 : Int).toNat, none⟩ (.int .i64 (wrap64 ((rd x10_30 x12_30) + 1))))) ?hg ?ho ?hn ?hr ?_; (case ho => rfl); (case hg => rfl); (case hn => rfl); (case hr => first | (go_simp; done) | (go_simp; rfl)); intro w66 hw; have hg : wc.grownBy w66 (some go48) := (by rw [hw]; exact HP65.2); have hp_ : Kd.R (Kd.int .i64) 2 w66 w.heap.size (fun k_ => some k_ ≠ (.slice Ao10 t171.length co10 : Value).ownBlock ∧ some k_ ≠ (.slice Ao11 t174.length co11 : Value).ownBlock) (.slice (some ⟨go48, 0, none⟩) x10_30.length co33) y194 := (by rw [hw, Ny194.out]; exact HP65.1); clear HP65; have n0_ := Aside0.mk (Kd.R_over' (v := (.slice (some ⟨go48, 0, none⟩) x10_30.length co33)) (by (with_reducible repeat (first | apply Kd.R_alloc | apply Kd.R_drewN | apply Kd.R_drew)); exact HO_6.out) (Kd.R_typed HO_10.out) (by decide) hg); have n1_ := Aside0.mk (hp_); have n2_ := Aside0.mk (Kd.R_after (v := (.slice (some ⟨go48, 0, none⟩) x10_30.length co33)) (v1 := (.slice (some ⟨go48, 0, none⟩) x10_30.length co33)) (ok := (fun k_ => some k_ ≠ (.slice Ao11 t174.length co11 : Value).ownBlock)) (by (with_reducible repeat (first | apply Kd.R_alloc | apply Kd.R_drewN | apply Kd.R_drew)); exact Kd.R_mono HO_178002.out (fun _ hk => ⟨hk.2, hk.1⟩)) hg (.inl rfl)); have n3_ := Aside0.mk (Kd.R_after (v := (.slice (some ⟨go48, 0, none⟩) x10_30.length co33)) (v1 := (.slice (some ⟨go48, 0, none⟩) x10_30.length co33)) (ok := (fun k_ => some k_ ≠ (.slice Ao10 t171.length co10 : Value).ownBlock)) (by (with_reducible repeat (first | apply Kd.R_alloc | apply Kd.R_drewN | apply Kd.R_drew)); exact Kd.R_mono HO_178003.out (fun _ hk => ⟨hk.2, hk.1⟩)) hg (.inl rfl)); have n4_ := Aside0.mk (blk_grown (g := gb177) (o := .cells #[.int .i64 t169, .int .i64 t170, .slice Ao10 t171.length co10, .slice Ao11 t174.length co11] 26 (0, 0)) (by (with_reducible repeat (first | refine blk_drewN ?_ _ | refine blk_drew ?_ | refine blk_alloc ?_ _)); exact BK177.out) hg (Kd.R_ne HO_10.out BK177.out (by decide))); have n5_ := Aside0.mk ((by rw [hw]; exact below_set (HB.out) GB48.out : Below w.heap.size w w66)); clear HO_6; clear HO_10; clear HO_178002; clear HO_178003; clear BK177; clear HB; have HO_6 := n0_; have HO_10 := n1_; have HO_178002 := n2_; have HO_178003 := n3_; have BK177 := n4_; have HB := n5_; clear n0_ n1_ n2_ n3_ n4_ n5_; clear hg hw hp_; have hcz67_0 : w66.cell? ⟨gb177, 0, none⟩ = some (.int .i64 t169) := (blk_cell BK177.out 0).trans rfl; have hcz67_1 : w66.cell? ⟨gb177, 1, none⟩ = some (.int .i64 t170) := (blk_cell BK177.out 1).trans rfl; have hcz67_2 : w66.cell? ⟨gb177, 2, none⟩ = some (.slice Ao10 t171.length co10) := (blk_cell BK177.out 2).trans rfl; have hcz67_3 : w66.cell? ⟨gb177, 3, none⟩ = some (.slice Ao11 t174.length co11) := (blk_cell BK177.out 3).trans rfl; have hfz67_0 := blk_frozen BK177.out 0; have hfz67_1 := blk_frozen BK177.out 1; have hfz67_2 := blk_frozen BK177.out 2; have hfz67_3 := blk_frozen BK177.out 3; have p195 : 0 ≤ (x12_30 : Int) := of_decide_eq_true (by first | (with_reducible assumption) | assumption); have q195 : x12_30 < (t174.length : Int) := of_decide_eq_true (by first | (with_reducible assumption) | assumption); obtain ⟨ad195, e195, hx195_0⟩ := Kd.at_int (Kd.R_reads' HO_178003.out).2.2 x12_30 p195 q195; cases e195; replace p195 := eq_true p195; replace q195 := eq_true q195; have p196 : 0 ≤ (x11_3 : Int) := of_decide_eq_true (by first | (with_reducible assumption) | assumption); have q196 : x11_3 < (t178.length : Int) := of_decide_eq_true (by first | (with_reducible assumption) | assumption); obtain ⟨ad196, e196, hx196_0, hx196_1⟩ := at_T32 (Kd.R_reads' HO_6.out).2.2 x11_3 p196 q196; cases e196; replace p196 := eq_true p196; replace q196 := eq_true q196; have p197 : 0 ≤ (x11_3 : Int) := of_decide_eq_true (by first | (with_reducible assumption) | assumption); have q197 : x11_3 < (t178.length : Int) := of_decide_eq_true (by first | (with_reducible assumption) | assumption); obtain ⟨ad197, e197, hx197_0, hx197_1⟩ := at_T32 (Kd.R_reads' HO_6.out).2.2 x11_3 p197 q197; obtain rfl : ad196 = ad197 := (by injection e197); replace p197 := eq_true p197; replace q197 := eq_true q197; have p198 : 0 ≤ ((ji53) : Int) := of_decide_eq_true (by first | (with_reducible assumption) | assumption); have q198 : (ji53) < (t178.length : Int) := of_decide_eq_true (by first | (with_reducible assumption) | assumption); obtain ⟨ad198, e198, hx198_0, hx198_1⟩ := at_T32 (Kd.R_reads' HO_6.out).2.2 (ji53) p198 q198; obtain rfl : ad196 = ad198 := (by injection e198); replace p198 := eq_true p198; replace q198 := eq_true q198; have p199 : 0 ≤ (x11_3 : Int) := of_decide_eq_true (by first | (with_reducible assumption) | assumption); have q199 : x11_3 < (t178.length : Int) := of_decide_eq_true (by first | (with_reducible assumption) | assumption); obtain ⟨ad199, e199, hx199_0, hx199_1⟩ := at_T32 (Kd.R_reads' HO_6.out).2.2 x11_3 p199 q199; obtain rfl : ad196 = ad199 := (by injection e199); replace p199 := eq_true p199; replace q199 := eq_true q199; have p200 : 0 ≤ (x11_3 : Int) := of_decide_eq_true (by first | (with_reducible assumption) | assumption); have q200 : x11_3 < (t178.length : Int) := of_decide_eq_true (by first | (with_reducible assumption) | assumption); obtain ⟨ad200, e200, hx200_0, hx200_1⟩ := at_T32 (Kd.R_reads' HO_6.out).2.2 x11_3 p200 q200; obtain rfl : ad196 = ad200 := (by injection e200); replace p200 := eq_true p200; replace q200 := eq_true q200)); try go_wp2_with (first | ((with_reducible refine gate_store (t := 2) (p := 107) rfl ?_); (try (rw [drewN_self wc]; generalize hq_ : World.drewN wc _ = wc; have n0_ := Aside0.mk (Kd.R_at hq_ HO_6.out); have n1_ := Aside0.mk (Kd.R_at hq_ HO_10.out); have n2_ := Aside0.mk (Kd.R_at hq_ HO_178002.out); have n3_ := Aside0.mk (Kd.R_at hq_ HO_178003.out); have n4_ := Aside0.mk (blk_at hq_ BK177.out); have n5_ := Aside0.mk (below_at hq_ HB.out); clear hq_ HO_6 HO_10 HO_178002 HO_178003 BK177 HB; have HO_6 := n0_; have HO_10 := n1_; have HO_178002 := n2_; have HO_178003 := n3_; have BK177 := n4_; have HB := n5_; clear n0_ n1_ n2_ n3_ n4_ n5_; (try (have HP65 := Kd.R_putg HO_10.out (x12_30 : Int) (wrap64 ((rd x10_30 x12_30) + 1)))))); refine store_event (t := 2) (p := 107) (v := ?vo_w66) (w1 := (wc.setCell ⟨go48, (x12_30 : Int).toNat, none⟩ (.int .i64 (wrap64 ((rd x10_30 x12_30) + 1))))) ?hg ?ho ?hn ?hr ?_; (case ho => rfl); (case hg => rfl); (case hn => rfl); (case hr => first | (go_simp; done) | (go_simp; rfl)); intro w66 hw; have hg : wc.grownBy w66 (some go48) := (by rw [hw]; exact HP65.2); have hp_ : Kd.R (Kd.int .i64) 2 w66 w.heap.size (fun k_ => some k_ ≠ (.slice Ao10 t171.length co10 : Value).ownBlock ∧ some k_ ≠ (.slice Ao11 t174.length co11 : Value).ownBlock) (.slice (some ⟨go48, 0, none⟩) x10_30.length co33) y194 := (by rw [hw, Ny194.out]; exact HP65.1); clear HP65; have n0_ := Aside0.mk (Kd.R_over' (v := (.slice (some ⟨go48, 0, none⟩) x10_30.length co33)) (by (with_reducible repeat (first | apply Kd.R_alloc | apply Kd.R_drewN | apply Kd.R_drew)); exact HO_6.out) (Kd.R_typed HO_10.out) (by decide) hg); have n1_ := Aside0.mk (hp_); have n2_ := Aside0.mk (Kd.R_after (v := (.slice (some ⟨go48, 0, none⟩) x10_30.length co33)) (v1 := (.slice (some ⟨go48, 0, none⟩) x10_30.length co33)) (ok := (fun k_ => some k_ ≠ (.slice Ao11 t174.length co11 : Value).ownBlock)) (by (with_reducible repeat (first | apply Kd.R_alloc | apply Kd.R_drewN | apply Kd.R_drew)); exact Kd.R_mono HO_178002.out (fun _ hk => ⟨hk.2, hk.1⟩)) hg (.inl rfl)); have n3_ := Aside0.mk (Kd.R_after (v := (.slice (some ⟨go48, 0, none⟩) x10_30.length co33)) (v1 := (.slice (some ⟨go48, 0, none⟩) x10_30.length co33)) (ok := (fun k_ => some k_ ≠ (.slice Ao10 t171.length co10 : Value).ownBlock)) (by (with_reducible repeat (first | apply Kd.R_alloc | apply Kd.R_drewN | apply Kd.R_drew)); exact Kd.R_mono HO_178003.out (fun _ hk => ⟨hk.2, hk.1⟩)) hg (.inl rfl)); have n4_ := Aside0.mk (blk_grown (g := gb177) (o := .cells #[.int .i64 t169, .int .i64 t170, .slice Ao10 t171.length co10, .slice Ao11 t174.length co11] 26 (0, 0)) (by (with_reducible repeat (first | refine blk_drewN ?_ _ | refine blk_drew ?_ | refine blk_alloc ?_ _)); exact BK177.out) hg (Kd.R_ne HO_10.out BK177.out (by decide))); have n5_ := Aside0.mk ((by rw [hw]; exact below_set (HB.out) GB48.out : Below w.heap.size w w66)); clear HO_6; clear HO_10; clear HO_178002; clear HO_178003; clear BK177; clear HB; have HO_6 := n0_; have HO_10 := n1_; have HO_178002 := n2_; have HO_178003 := n3_; have BK177 := n4_; have HB := n5_; clear n0_ n1_ n2_ n3_ n4_ n5_; clear hg hw hp_; have hcz67_0 : w66.cell? ⟨gb177, 0, none⟩ = some (.int .i64 t169) := (blk_cell BK177.out 0).trans rfl; have hcz67_1 : w66.cell? ⟨gb177, 1, none⟩ = some (.int .i64 t170) := (blk_cell BK177.out 1).trans rfl; have hcz67_2 : w66.cell? ⟨gb177, 2, none⟩ = some (.slice Ao10 t171.length co10) := (blk_cell BK177.out 2).trans rfl; have hcz67_3 : w66.cell? ⟨gb177, 3, none⟩ = some (.slice Ao11 t174.length co11) := (blk_cell BK177.out 3).trans rfl; have hfz67_0 := blk_frozen BK177.out 0; have hfz67_1 := blk_frozen BK177.out 1; have hfz67_2 := blk_frozen BK177.out 2; have hfz67_3 := blk_frozen BK177.out 3; have p195 : 0 ≤ (x12_30 : Int) := of_decide_eq_true (by first | (with_reducible assumption) | assumption); have q195 : x12_30 < (t174.length : Int) := of_decide_eq_true (by first | (with_reducible assumption) | assumption); obtain ⟨ad195, e195, hx195_0⟩ := Kd.at_int (Kd.R_reads' HO_178003.out).2.2 x12_30 p195 q195; cases e195; replace p195 := eq_true p195; replace q195 := eq_true q195; have p196 : 0 ≤ (x11_3 : Int) := of_decide_eq_true (by first | (with_reducible assumption) | assumption); have q196 : x11_3 < (t178.length : Int) := of_decide_eq_true (by first | (with_reducible assumption) | assumption); obtain ⟨ad196, e196, hx196_0, hx196_1⟩ := at_T32 (Kd.R_reads' HO_6.out).2.2 x11_3 p196 q196; cases e196; replace p196 := eq_true p196; replace q196 := eq_true q196; have p197 : 0 ≤ (x11_3 : Int) := of_decide_eq_true (by first | (with_reducible assumption) | assumption); have q197 : x11_3 < (t178.length : Int) := of_decide_eq_true (by first | (with_reducible assumption) | assumption); obtain ⟨ad197, e197, hx197_0, hx197_1⟩ := at_T32 (Kd.R_reads' HO_6.out).2.2 x11_3 p197 q197; obtain rfl : ad196 = ad197 := (by injection e197); replace p197 := eq_true p197; replace q197 := eq_true q197; have p198 : 0 ≤ ((ji53) : Int) := of_decide_eq_true (by first | (with_reducible assumption) | assumption); have q198 : (ji53) < (t178.length : Int) := of_decide_eq_true (by first | (with_reducible assumption) | assumption); obtain ⟨ad198, e198, hx198_0, hx198_1⟩ := at_T32 (Kd.R_reads' HO_6.out).2.2 (ji53) p198 q198; obtain rfl : ad196 = ad198 := (by injection e198); replace p198 := eq_true p198; replace q198 := eq_true q198; have p199 : 0 ≤ (x11_3 : Int) := of_decide_eq_true (by first | (with_reducible assumption) | assumption); have q199 : x11_3 < (t178.length : Int) := of_decide_eq_true (by first | (with_reducible assumption) | assumption); obtain ⟨ad199, e199, hx199_0, hx199_1⟩ := at_T32 (Kd.R_reads' HO_6.out).2.2 x11_3 p199 q199; obtain rfl : ad196 = ad199 := (by injection e199); replace p199 := eq_true p199; replace q199 := eq_true q199; have p200 : 0 ≤ (x11_3 : Int) := of_decide_eq_true (by first | (with_reducible assumption) | assumption); have q200 : x11_3 < (t178.length : Int) := of_decide_eq_true (by first | (with_reducible assumption) | assumption); obtain ⟨ad200, e200, hx200_0, hx200_1⟩ := at_T32 (Kd.R_reads' HO_6.out).2.2 x11_3 p200 q200; obtain rfl : ad196 = ad200 := (by injection e200); replace p200 := eq_true p200; replace q200 := eq_true q200)))
                                                      (try simp only [← hl10_30])
                                                      go_roundg kj30
                                                      case measure => have := HK1.out; have := HJ15.out; have := HK3.out; have := HJ30.out; omega
                                                      case rel => exact ⟨(y194), (wrap64 (x11_3 + 1)), (by first | rfl | (simp; done) | (simp [*]; done)), H', ⟨by have := HK1.out; have := HJ15.out; have := HK3.out; have := HJ30.out; omega⟩, ⟨by (try simp only [hl10_30]); (with_reducible repeat (first | apply Kd.R_alloc | apply Kd.R_drewN | apply Kd.R_drew)); exact HO_6.out⟩, ⟨by (try simp only [hl10_30]); (with_reducible repeat (first | apply Kd.R_alloc | apply Kd.R_drewN | apply Kd.R_drew)); exact HO_10.out⟩, ⟨by (try simp only [hl10_30]); (with_reducible repeat (first | apply Kd.R_alloc | apply Kd.R_drewN | apply Kd.R_drew)); exact Kd.R_mono HO_178002.out (fun _ hk => ⟨hk.2, hk.1⟩)⟩, ⟨by (try simp only [hl10_30]); (with_reducible repeat (first | apply Kd.R_alloc | apply Kd.R_drewN | apply Kd.R_drew)); exact Kd.R_mono HO_178003.out (fun _ hk => ⟨hk.2, hk.1⟩)⟩, ⟨by (try simp only [hl10_30]); (with_reducible repeat (first | refine blk_drewN ?_ _ | refine blk_drew ?_ | refine blk_alloc ?_ _)); exact BK177.out⟩, ⟨by repeat (first | (with_reducible first | exact HB.out | apply below_alloc | apply pw_below_drewN | apply below_drew1 | refine below_set ?_ GE177.out) | exact HB.out)⟩⟩
                                                · rw [if_neg c56] at H
                                                  have c56b0 : ((Int.tmod (wrap64 ((wrap64 (((rd_T32 t178 x11_3).f1) - ((rd_T32 t178 (ji53)).f1))) - (wrap64 (x13_30 + (rd t174 x12_30))))) 64) == 0) = false := beq_eq_false_iff_ne.mpr c56
                                                  have c56b1 : ((Int.tmod (wrap64 ((wrap64 (((rd_T32 t178 x11_3).f1) - ((rd_T32 t178 (ji53)).f1))) - (wrap64 (x13_30 + (rd t174 x12_30))))) 64) != 0) = true := bne_iff_ne.mpr c56
                                                  obtain rfl := Option.some.inj H
                                                  have p193 : 0 ≤ (x12_30 : Int) := of_decide_eq_true (by first | (with_reducible assumption) | assumption)
                                                  have q193 : x12_30 < (x10_30.length : Int) := of_decide_eq_true (by first | (with_reducible assumption) | assumption)
                                                  obtain ⟨ad193, e193, hx193_0⟩ := Kd.at_int (Kd.R_reads' HO_10.out).2.2 x12_30 p193 q193
                                                  cases e193
                                                  replace p193 := eq_true p193
                                                  replace q193 := eq_true q193
                                                  have p48 : 0 ≤ (x12_30 : Int) := of_decide_eq_true (by first | (with_reducible assumption) | assumption)
                                                  have q48 : (x12_30 : Int) < ((x10_30.length : Int) : Int) := of_decide_eq_true (by first | (with_reducible assumption) | assumption)
                                                  obtain ⟨go48, co48, eo48, gb48, gl48, cl48, HG48⟩ := Kd.R_form HO_10.out (by omega)
                                                  (first | cases eo48 | (injection eo48 with ea_ en_ ec_; (first | subst ea_ | (injection ea_ with ea_; subst ea_)); subst ec_; clear en_))
                                                  have GB48 := Aside0.mk gb48
                                                  have GG48 := Aside0.mk HG48
                                                  clear gb48 gl48 HG48
                                                  (first | simp only [add_plain] at hx193_0 | skip)
                                                  obtain ⟨hx48_0, hf48_0⟩ := Kd.R_celln 0 HO_10.out (x12_30 : Int) p48 q48
                                                  replace p48 := eq_true p48
                                                  replace q48 := eq_true q48
                                                  have HP68 := Kd.R_putg HO_10.out (x12_30 : Int) (wrap64 ((rd x10_30 x12_30) + 1))
                                                  go_wp2_with (first | ((with_reducible refine gate_store (t := 2) (p := 107) rfl ?_); (try (rw [drewN_self wc]; generalize hq_ : World.drewN wc _ = wc; have n0_ := Aside0.mk (Kd.R_at hq_ HO_6.out); have n1_ := Aside0.mk (Kd.R_at hq_ HO_10.out); have n2_ := Aside0.mk (Kd.R_at hq_ HO_178002.out); have n3_ := Aside0.mk (Kd.R_at hq_ HO_178003.out); have n4_ := Aside0.mk (blk_at hq_ BK177.out); have n5_ := Aside0.mk (below_at hq_ HB.out); clear hq_ HO_6 HO_10 HO_178002 HO_178003 BK177 HB; have HO_6 := n0_; have HO_10 := n1_; have HO_178002 := n2_; have HO_178003 := n3_; have BK177 := n4_; have HB := n5_; clear n0_ n1_ n2_ n3_ n4_ n5_; (try (have HP68 := Kd.R_putg HO_10.out (x12_30 : Int) (wrap64 ((rd x10_30 x12_30) + 1)))))); refine store_event (t := 2) (p := 107) (v := ?vo_w69) (w1 := (wc.setCell ⟨go48, (x12_30 : Int).toNat, none⟩ (.int .i64 (wrap64 ((rd x10_30 x12_30) + 1))))) ?hg ?ho ?hn ?hr ?_; (case ho => rfl); (case hg => rfl); (case hn => rfl); (case hr => first | (go_simp; done) | (go_simp; rfl)); intro w69 hw; have hg : wc.grownBy w69 (some go48) := (by rw [hw]; exact HP68.2); have hp_ : Kd.R (Kd.int .i64) 2 w69 w.heap.size (fun k_ => some k_ ≠ (.slice Ao10 t171.length co10 : Value).ownBlock ∧ some k_ ≠ (.slice Ao11 t174.length co11 : Value).ownBlock) (.slice (some ⟨go48, 0, none⟩) x10_30.length co33) y194 := (by rw [hw, Ny194.out]; exact HP68.1); clear HP68; have n0_ := Aside0.mk (Kd.R_over' (v := (.slice (some ⟨go48, 0, none⟩) x10_30.length co33)) (by (with_reducible repeat (first | apply Kd.R_alloc | apply Kd.R_drewN | apply Kd.R_drew)); exact HO_6.out) (Kd.R_typed HO_10.out) (by decide) hg); have n1_ := Aside0.mk (hp_); have n2_ := Aside0.mk (Kd.R_after (v := (.slice (some ⟨go48, 0, none⟩) x10_30.length co33)) (v1 := (.slice (some ⟨go48, 0, none⟩) x10_30.length co33)) (ok := (fun k_ => some k_ ≠ (.slice Ao11 t174.length co11 : Value).ownBlock)) (by (with_reducible repeat (first | apply Kd.R_alloc | apply Kd.R_drewN | apply Kd.R_drew)); exact Kd.R_mono HO_178002.out (fun _ hk => ⟨hk.2, hk.1⟩)) hg (.inl rfl)); have n3_ := Aside0.mk (Kd.R_after (v := (.slice (some ⟨go48, 0, none⟩) x10_30.length co33)) (v1 := (.slice (some ⟨go48, 0, none⟩) x10_30.length co33)) (ok := (fun k_ => some k_ ≠ (.slice Ao10 t171.length co10 : Value).ownBlock)) (by (with_reducible repeat (first | apply Kd.R_alloc | apply Kd.R_drewN | apply Kd.R_drew)); exact Kd.R_mono HO_178003.out (fun _ hk => ⟨hk.2, hk.1⟩)) hg (.inl rfl)); have n4_ := Aside0.mk (blk_grown (g := gb177) (o := .cells #[.int .i64 t169, .int .i64 t170, .slice Ao10 t171.length co10, .slice Ao11 t174.length co11] 26 (0, 0)) (by (with_reducible repeat (first | refine blk_drewN ?_ _ | refine blk_drew ?_ | refine blk_alloc ?_ _)); exact BK177.out) hg (Kd.R_ne HO_10.out BK177.out (by decide))); have n5_ := Aside0.mk ((by rw [hw]; exact below_set (HB.out) GB48.out : Below w.heap.size w w69)); clear HO_6; clear HO_10; clear HO_178002; clear HO_178003; clear BK177; clear HB; have HO_6 := n0_; have HO_10 := n1_; have HO_178002 := n2_; have HO_178003 := n3_; have BK177 := n4_; have HB := n5_; clear n0_ n1_ n2_ n3_ n4_ n5_; clear hg hw hp_; have hcz70_0 : w69.cell? ⟨gb177, 0, none⟩ = some (.int .i64 t169) := (blk_cell BK177.out 0).trans rfl; have hcz70_1 : w69.cell? ⟨gb177, 1, none⟩ = some (.int .i64 t170) := (blk_cell BK177.out 1).trans rfl; have hcz70_2 : w69.cell? ⟨gb177, 2, none⟩ = some (.slice Ao10 t171.length co10) := (blk_cell BK177.out 2).trans rfl; have hcz70_3 : w69.cell? ⟨gb177, 3, none⟩ = some (.slice Ao11 t174.length co11) := (blk_cell BK177.out 3).trans rfl; have hfz70_0 := blk_frozen BK177.out 0; have hfz70_1 := blk_frozen BK177.out 1; have hfz70_2 := blk_frozen BK177.out 2; have hfz70_3 := blk_frozen BK177.out 3; have p195 : 0 ≤ (x12_30 : Int) := of_decide_eq_true (by first | (with_reducible assumption) | assumption); have q195 : x12_30 < (t174.length : Int) := of_decide_eq_true (by first | (with_reducible assumption) | assumption); obtain ⟨ad195, e195, hx195_0⟩ := Kd.at_int (Kd.R_reads' HO_178003.out).2.2 x12_30 p195 q195; cases e195; replace p195 := eq_true p195; replace q195 := eq_true q195; have p196 : 0 ≤ (x11_3 : Int) := of_decide_eq_true (by first | (with_reducible assumption) | assumption); have q196 : x11_3 < (t178.length : Int) := of_decide_eq_true (by first | (with_reducible assumption) | assumption); obtain ⟨ad196, e196, hx196_0, hx196_1⟩ := at_T32 (Kd.R_reads' HO_6.out).2.2 x11_3 p196 q196; cases e196; replace p196 := eq_true p196; replace q196 := eq_true q196; have p197 : 0 ≤ (x11_3 : Int) := of_decide_eq_true (by first | (with_reducible assumption) | assumption); have q197 : x11_3 < (t178.length : Int) := of_decide_eq_true (by first | (with_reducible assumption) | assumption); obtain ⟨ad197, e197, hx197_0, hx197_1⟩ := at_T32 (Kd.R_reads' HO_6.out).2.2 x11_3 p197 q197; obtain rfl : ad196 = ad197 := (by injection e197); replace p197 := eq_true p197; replace q197 := eq_true q197; have p198 : 0 ≤ ((ji53) : Int) := of_decide_eq_true (by first | (with_reducible assumption) | assumption); have q198 : (ji53) < (t178.length : Int) := of_decide_eq_true (by first | (with_reducible assumption) | assumption); obtain ⟨ad198, e198, hx198_0, hx198_1⟩ := at_T32 (Kd.R_reads' HO_6.out).2.2 (ji53) p198 q198; obtain rfl : ad196 = ad198 := (by injection e198); replace p198 := eq_true p198; replace q198 := eq_true q198))
                                                  repeat (go_quiet (first | ((with_reducible refine gate_store (t := 2) (p := 107) rfl ?_); (try (rw [drewN_self wc]; generalize hq_ : World.drewN wc _ = wc; have n0_ := Aside0.mk (Kd.R_at hq_ HO_6.out); have n1_ := Aside0.mk (Kd.R_at hq_ HO_10.out); have n2_ := Aside0.mk (Kd.R_at hq_ HO_178002.out); have n3_ := Aside0.mk (Kd.R_at hq_ HO_178003.out); have n4_ := Aside0.mk (blk_at hq_ BK177.out); have n5_ := Aside0.mk (below_at hq_ HB.out); clear hq_ HO_6 HO_10 HO_178002 HO_178003 BK177 HB; have HO_6 := n0_; have HO_10 := n1_; have HO_178002 := n2_; have HO_178003 := n3_; have BK177 := n4_; have HB := n5_; clear n0_ n1_ n2_ n3_ n4_ n5_; (try (have HP68 := Kd.R_putg HO_10.out (x12_30 : Int) (wrap64 ((rd x10_30 x12_30) + 1)))))); refine store_event (t := 2) (p := 107) (v := ?vo_w69) (w1 := (wc.setCell ⟨go48, (x12_30 : Int).toNat, none⟩ (.int .i64 (wrap64 ((rd x10_30 x12_30) + 1))))) ?hg ?ho ?hn ?hr ?_; (case ho => rfl); (case hg => rfl); (case hn => rfl); (case hr => first | (go_simp; done) | (go_simp; rfl)); intro w69 hw; have hg : wc.grownBy w69 (some go48) := (by rw [hw]; exact HP68.2); have hp_ : Kd.R (Kd.int .i64) 2 w69 w.heap.size (fun k_ => some k_ ≠ (.slice Ao10 t171.length co10 : Value).ownBlock ∧ some k_ ≠ (.slice Ao11 t174.length co11 : Value).ownBlock) (.slice (some ⟨go48, 0, none⟩) x10_30.length co33) y194 := (by rw [hw, Ny194.out]; exact HP68.1); clear HP68; have n0_ := Aside0.mk (Kd.R_over' (v := (.slice (some ⟨go48, 0, none⟩) x10_30.length co33)) (by (with_reducible repeat (first | apply Kd.R_alloc | apply Kd.R_drewN | apply Kd.R_drew)); exact HO_6.out) (Kd.R_typed HO_10.out) (by decide) hg); have n1_ := Aside0.mk (hp_); have n2_ := Aside0.mk (Kd.R_after (v := (.slice (some ⟨go48, 0, none⟩) x10_30.length co33)) (v1 := (.slice (some ⟨go48, 0, none⟩) x10_30.length co33)) (ok := (fun k_ => some k_ ≠ (.slice Ao11 t174.length co11 : Value).ownBlock)) (by (with_reducible repeat (first | apply Kd.R_alloc | apply Kd.R_drewN | apply Kd.R_drew)); exact Kd.R_mono HO_178002.out (fun _ hk => ⟨hk.2, hk.1⟩)) hg (.inl rfl)); have n3_ := Aside0.mk (Kd.R_after (v := (.slice (some ⟨go48, 0, none⟩) x10_30.length co33)) (v1 := (.slice (some ⟨go48, 0, none⟩) x10_30.length co33)) (ok := (fun k_ => some k_ ≠ (.slice Ao10 t171.length co10 : Value).ownBlock)) (by (with_reducible repeat (first | apply Kd.R_alloc | apply Kd.R_drewN | apply Kd.R_drew)); exact Kd.R_mono HO_178003.out (fun _ hk => ⟨hk.2, hk.1⟩)) hg (.inl rfl)); have n4_ := Aside0.mk (blk_grown (g := gb177) (o := .cells #[.int .i64 t169, .int .i64 t170, .slice Ao10 t171.length co10, .slice Ao11 t174.length co11] 26 (0, 0)) (by (with_reducible repeat (first | refine blk_drewN ?_ _ | refine blk_drew ?_ | refine blk_alloc ?_ _)); exact BK177.out) hg (Kd.R_ne HO_10.out BK177.out (by decide))); have n5_ := Aside0.mk ((by rw [hw]; exact below_set (HB.out) GB48.out : Below w.heap.size w w69)); clear HO_6; clear HO_10; clear HO_178002; clear HO_178003; clear BK177; clear HB; have HO_6 := n0_; have HO_10 := n1_; have HO_178002 := n2_; have HO_178003 := n3_; have BK177 := n4_; have HB := n5_; clear n0_ n1_ n2_ n3_ n4_ n5_; clear hg hw hp_; have hcz70_0 : w69.cell? ⟨gb177, 0, none⟩ = some (.int .i64 t169) := (blk_cell BK177.out 0).trans rfl; have hcz70_1 : w69.cell? ⟨gb177, 1, none⟩ = some (.int .i64 t170) := (blk_cell BK177.out 1).trans rfl; have hcz70_2 : w69.cell? ⟨gb177, 2, none⟩ = some (.slice Ao10 t171.length co10) := (blk_cell BK177.out 2).trans rfl; have hcz70_3 : w69.cell? ⟨gb177, 3, none⟩ = some (.slice Ao11 t174.length co11) := (blk_cell BK177.out 3).trans rfl; have hfz70_0 := blk_frozen BK177.out 0; have hfz70_1 := blk_frozen BK177.out 1; have hfz70_2 := blk_frozen BK177.out 2; have hfz70_3 := blk_frozen BK177.out 3; have p195 : 0 ≤ (x12_30 : Int) := of_decide_eq_true (by first | (with_reducible assumption) | assumption); have q195 : x12_30 < (t174.length : Int) := of_decide_eq_true (by first | (with_reducible assumption) | assumption); obtain ⟨ad195, e195, hx195_0⟩ := Kd.at_int (Kd.R_reads' HO_178003.out).2.2 x12_30 p195 q195; cases e195; replace p195 := eq_true p195; replace q195 := eq_true q195; have p196 : 0 ≤ (x11_3 : Int) := of_decide_eq_true (by first | (with_reducible assumption) | assumption); have q196 : x11_3 < (t178.length : Int) := of_decide_eq_true (by first | (with_reducible assumption) | assumption); obtain ⟨ad196, e196, hx196_0, hx196_1⟩ := at_T32 (Kd.R_reads' HO_6.out).2.2 x11_3 p196 q196; cases e196; replace p196 := eq_true p196; replace q196 := eq_true q196; have p197 : 0 ≤ (x11_3 : Int) := of_decide_eq_true (by first | (with_reducible assumption) | assumption); have q197 : x11_3 < (t178.length : Int) := of_decide_eq_true (by first | (with_reducible assumption) | assumption); obtain ⟨ad197, e197, hx197_0, hx197_1⟩ := at_T32 (Kd.R_reads' HO_6.out).2.2 x11_3 p197 q197; obtain rfl : ad196 = ad197 := (by injection e197); replace p197 := eq_true p197; replace q197 := eq_true q197; have p198 : 0 ≤ ((ji53) : Int) := of_decide_eq_true (by first | (with_reducible assumption) | assumption); have q198 : (ji53) < (t178.length : Int) := of_decide_eq_true (by first | (with_reducible assumption) | assumption); obtain ⟨ad198, e198, hx198_0, hx198_1⟩ := at_T32 (Kd.R_reads' HO_6.out).2.2 (ji53) p198 q198; obtain rfl : ad196 = ad198 := (by injection e198); replace p198 := eq_true p198; replace q198 := eq_true q198)); try go_wp2_with (first | ((with_reducible refine gate_store (t := 2) (p := 107) rfl ?_); (try (rw [drewN_self wc]; generalize hq_ : World.drewN wc _ = wc; have n0_ := Aside0.mk (Kd.R_at hq_ HO_6.out); have n1_ := Aside0.mk (Kd.R_at hq_ HO_10.out); have n2_ := Aside0.mk (Kd.R_at hq_ HO_178002.out); have n3_ := Aside0.mk (Kd.R_at hq_ HO_178003.out); have n4_ := Aside0.mk (blk_at hq_ BK177.out); have n5_ := Aside0.mk (below_at hq_ HB.out); clear hq_ HO_6 HO_10 HO_178002 HO_178003 BK177 HB; have HO_6 := n0_; have HO_10 := n1_; have HO_178002 := n2_; have HO_178003 := n3_; have BK177 := n4_; have HB := n5_; clear n0_ n1_ n2_ n3_ n4_ n5_; (try (have HP68 := Kd.R_putg HO_10.out (x12_30 : Int) (wrap64 ((rd x10_30 x12_30) + 1)))))); refine store_event (t := 2) (p := 107) (v := ?vo_w69) (w1 := (wc.setCell ⟨go48, (x12_30 : Int).toNat, none⟩ (.int .i64 (wrap64 ((rd x10_30 x12_30) + 1))))) ?hg ?ho ?hn ?hr ?_; (case ho => rfl); (case hg => rfl); (case hn => rfl); (case hr => first | (go_simp; done) | (go_simp; rfl)); intro w69 hw; have hg : wc.grownBy w69 (some go48) := (by rw [hw]; exact HP68.2); have hp_ : Kd.R (Kd.int .i64) 2 w69 w.heap.size (fun k_ => some k_ ≠ (.slice Ao10 t171.length co10 : Value).ownBlock ∧ some k_ ≠ (.slice Ao11 t174.length co11 : Value).ownBlock) (.slice (some ⟨go48, 0, none⟩) x10_30.length co33) y194 := (by rw [hw, Ny194.out]; exact HP68.1); clear HP68; have n0_ := Aside0.mk (Kd.R_over' (v := (.slice (some ⟨go48, 0, none⟩) x10_30.length co33)) (by (with_reducible repeat (first | apply Kd.R_alloc | apply Kd.R_drewN | apply Kd.R_drew)); exact HO_6.out) (Kd.R_typed HO_10.out) (by decide) hg); have n1_ := Aside0.mk (hp_); have n2_ := Aside0.mk (Kd.R_after (v := (.slice (some ⟨go48, 0, none⟩) x10_30.length co33)) (v1 := (.slice (some ⟨go48, 0, none⟩) x10_30.length co33)) (ok := (fun k_ => some k_ ≠ (.slice Ao11 t174.length co11 : Value).ownBlock)) (by (with_reducible repeat (first | apply Kd.R_alloc | apply Kd.R_drewN | apply Kd.R_drew)); exact Kd.R_mono HO_178002.out (fun _ hk => ⟨hk.2, hk.1⟩)) hg (.inl rfl)); have n3_ := Aside0.mk (Kd.R_after (v := (.slice (some ⟨go48, 0, none⟩) x10_30.length co33)) (v1 := (.slice (some ⟨go48, 0, none⟩) x10_30.length co33)) (ok := (fun k_ => some k_ ≠ (.slice Ao10 t171.length co10 : Value).ownBlock)) (by (with_reducible repeat (first | apply Kd.R_alloc | apply Kd.R_drewN | apply Kd.R_drew)); exact Kd.R_mono HO_178003.out (fun _ hk => ⟨hk.2, hk.1⟩)) hg (.inl rfl)); have n4_ := Aside0.mk (blk_grown (g := gb177) (o := .cells #[.int .i64 t169, .int .i64 t170, .slice Ao10 t171.length co10, .slice Ao11 t174.length co11] 26 (0, 0)) (by (with_reducible repeat (first | refine blk_drewN ?_ _ | refine blk_drew ?_ | refine blk_alloc ?_ _)); exact BK177.out) hg (Kd.R_ne HO_10.out BK177.out (by decide))); have n5_ := Aside0.mk ((by rw [hw]; exact below_set (HB.out) GB48.out : Below w.heap.size w w69)); clear HO_6; clear HO_10; clear HO_178002; clear HO_178003; clear BK177; clear HB; have HO_6 := n0_; have HO_10 := n1_; have HO_178002 := n2_; have HO_178003 := n3_; have BK177 := n4_; have HB := n5_; clear n0_ n1_ n2_ n3_ n4_ n5_; clear hg hw hp_; have hcz70_0 : w69.cell? ⟨gb177, 0, none⟩ = some (.int .i64 t169) := (blk_cell BK177.out 0).trans rfl; have hcz70_1 : w69.cell? ⟨gb177, 1, none⟩ = some (.int .i64 t170) := (blk_cell BK177.out 1).trans rfl; have hcz70_2 : w69.cell? ⟨gb177, 2, none⟩ = some (.slice Ao10 t171.length co10) := (blk_cell BK177.out 2).trans rfl; have hcz70_3 : w69.cell? ⟨gb177, 3, none⟩ = some (.slice Ao11 t174.length co11) := (blk_cell BK177.out 3).trans rfl; have hfz70_0 := blk_frozen BK177.out 0; have hfz70_1 := blk_frozen BK177.out 1; have hfz70_2 := blk_frozen BK177.out 2; have hfz70_3 := blk_frozen BK177.out 3; have p195 : 0 ≤ (x12_30 : Int) := of_decide_eq_true (by first | (with_reducible assumption) | assumption); have q195 : x12_30 < (t174.length : Int) := of_decide_eq_true (by first | (with_reducible assumption) | assumption); obtain ⟨ad195, e195, hx195_0⟩ := Kd.at_int (Kd.R_reads' HO_178003.out).2.2 x12_30 p195 q195; cases e195; replace p195 := eq_true p195; replace q195 := eq_true q195; have p196 : 0 ≤ (x11_3 : Int) := of_decide_eq_true (by first | (with_reducible assumption) | assumption); have q196 : x11_3 < (t178.length : Int) := of_decide_eq_true (by first | (with_reducible assumption) | assumption); obtain ⟨ad196, e196, hx196_0, hx196_1⟩ := at_T32 (Kd.R_reads' HO_6.out).2.2 x11_3 p196 q196; cases e196; replace p196 := eq_true p196; replace q196 := eq_true q196; have p197 : 0 ≤ (x11_3 : Int) := of_decide_eq_true (by first | (with_reducible assumption) | assumption); have q197 : x11_3 < (t178.length : Int) := of_decide_eq_true (by first | (with_reducible assumption) | assumption); obtain ⟨ad197, e197, hx197_0, hx197_1⟩ := at_T32 (Kd.R_reads' HO_6.out).2.2 x11_3 p197 q197; obtain rfl : ad196 = ad197 := (by injection e197); replace p197 := eq_true p197; replace q197 := eq_true q197; have p198 : 0 ≤ ((ji53) : Int) := of_decide_eq_true (by first | (with_reducible assumption) | assumption); have q198 : (ji53) < (t178.length : Int) := of_decide_eq_true (by first | (with_reducible assumption) | assumption); obtain ⟨ad198, e198, hx198_0, hx198_1⟩ := at_T32 (Kd.R_reads' HO_6.out).2.2 (ji53) p198 q198; obtain rfl : ad196 = ad198 := (by injection e198); replace p198 := eq_true p198; replace q198 := eq_true q198)))
                                                  go_ret
                                                  exact ⟨by first | rfl | (simp [errW_none, errW_some] <;> rfl) | (simp only [← hji53]; first | rfl | (simp [errW_none, errW_some] <;> rfl)) | (simp [*, errW_none, errW_some] <;> rfl), by repeat (first | (with_reducible first | exact HB.out | apply below_alloc | apply pw_below_drewN | apply below_drew1 | refine below_set ?_ GE177.out) | exact HB.out)⟩
                                              · rw [if_neg c55] at H
                                                exact absurd H (by simp)
                                            · rw [if_neg c54] at H
                                              exact absurd H (by simp)
                                          · rw [if_neg c52] at H
                                            have c52b0 : (((rd_T32 t178 x11_3).f0) == t169) = false := beq_eq_false_iff_ne.mpr c52
                                            have c52b1 : (((rd_T32 t178 x11_3).f0) != t169) = true := bne_iff_ne.mpr c52
                                            obtain rfl := Option.some.inj H
                                            have p193 : 0 ≤ (x12_30 : Int) := of_decide_eq_true (by first | (with_reducible assumption) | assumption)
                                            have q193 : x12_30 < (x10_30.length : Int) := of_decide_eq_true (by first | (with_reducible assumption) | assumption)
                                            obtain ⟨ad193, e193, hx193_0⟩ := Kd.at_int (Kd.R_reads' HO_10.out).2.2 x12_30 p193 q193
                                            cases e193
                                            replace p193 := eq_true p193
                                            replace q193 := eq_true q193
                                            have p48 : 0 ≤ (x12_30 : Int) := of_decide_eq_true (by first | (with_reducible assumption) | assumption)
                                            have q48 : (x12_30 : Int) < ((x10_30.length : Int) : Int) := of_decide_eq_true (by first | (with_reducible assumption) | assumption)
                                            obtain ⟨go48, co48, eo48, gb48, gl48, cl48, HG48⟩ := Kd.R_form HO_10.out (by omega)
                                            (first | cases eo48 | (injection eo48 with ea_ en_ ec_; (first | subst ea_ | (injection ea_ with ea_; subst ea_)); subst ec_; clear en_))
                                            have GB48 := Aside0.mk gb48
                                            have GG48 := Aside0.mk HG48
                                            clear gb48 gl48 HG48
                                            (first | simp only [add_plain] at hx193_0 | skip)
                                            obtain ⟨hx48_0, hf48_0⟩ := Kd.R_celln 0 HO_10.out (x12_30 : Int) p48 q48
                                            replace p48 := eq_true p48
                                            replace q48 := eq_true q48
                                            have HP71 := Kd.R_putg HO_10.out (x12_30 : Int) (wrap64 ((rd x10_30 x12_30) + 1))
                                            go_wp2_with (first | ((with_reducible refine gate_store (t := 2) (p := 107) rfl ?_); (try (rw [drewN_self wc]; generalize hq_ : World.drewN wc _ = wc; have n0_ := Aside0.mk (Kd.R_at hq_ HO_6.out); have n1_ := Aside0.mk (Kd.R_at hq_ HO_10.out); have n2_ := Aside0.mk (Kd.R_at hq_ HO_178002.out); have n3_ := Aside0.mk (Kd.R_at hq_ HO_178003.out); have n4_ := Aside0.mk (blk_at hq_ BK177.out); have n5_ := Aside0.mk (below_at hq_ HB.out); clear hq_ HO_6 HO_10 HO_178002 HO_178003 BK177 HB; have HO_6 := n0_; have HO_10 := n1_; have HO_178002 := n2_; have HO_178003 := n3_; have BK177 := n4_; have HB := n5_; clear n0_ n1_ n2_ n3_ n4_ n5_; (try (have HP71 := Kd.R_putg HO_10.out (x12_30 : Int) (wrap64 ((rd x10_30 x12_30) + 1)))))); refine store_event (t := 2) (p := 107) (v := ?vo_w72) (w1 := (wc.setCell ⟨go48, (x12_30 : Int).toNat, none⟩ (.int .i64 (wrap64 ((rd x10_30 x12_30) + 1))))) ?hg ?ho ?hn ?hr ?_; (case ho => rfl); (case hg => rfl); (case hn => rfl); (case hr => first | (go_simp; done) | (go_simp; rfl)); intro w72 hw; have hg : wc.grownBy w72 (some go48) := (by rw [hw]; exact HP71.2); have hp_ : Kd.R (Kd.int .i64) 2 w72 w.heap.size (fun k_ => some k_ ≠ (.slice Ao10 t171.length co10 : Value).ownBlock ∧ some k_ ≠ (.slice Ao11 t174.length co11 : Value).ownBlock) (.slice (some ⟨go48, 0, none⟩) x10_30.length co33) y194 := (by rw [hw, Ny194.out]; exact HP71.1); clear HP71; have n0_ := Aside0.mk (Kd.R_over' (v := (.slice (some ⟨go48, 0, none⟩) x10_30.length co33)) (by (with_reducible repeat (first | apply Kd.R_alloc | apply Kd.R_drewN | apply Kd.R_drew)); exact HO_6.out) (Kd.R_typed HO_10.out) (by decide) hg); have n1_ := Aside0.mk (hp_); have n2_ := Aside0.mk (Kd.R_after (v := (.slice (some ⟨go48, 0, none⟩) x10_30.length co33)) (v1 := (.slice (some ⟨go48, 0, none⟩) x10_30.length co33)) (ok := (fun k_ => some k_ ≠ (.slice Ao11 t174.length co11 : Value).ownBlock)) (by (with_reducible repeat (first | apply Kd.R_alloc | apply Kd.R_drewN | apply Kd.R_drew)); exact Kd.R_mono HO_178002.out (fun _ hk => ⟨hk.2, hk.1⟩)) hg (.inl rfl)); have n3_ := Aside0.mk (Kd.R_after (v := (.slice (some ⟨go48, 0, none⟩) x10_30.length co33)) (v1 := (.slice (some ⟨go48, 0, none⟩) x10_30.length co33)) (ok := (fun k_ => some k_ ≠ (.slice Ao10 t171.length co10 : Value).ownBlock)) (by (with_reducible repeat (first | apply Kd.R_alloc | apply Kd.R_drewN | apply Kd.R_drew)); exact Kd.R_mono HO_178003.out (fun _ hk => ⟨hk.2, hk.1⟩)) hg (.inl rfl)); have n4_ := Aside0.mk (blk_grown (g := gb177) (o := .cells #[.int .i64 t169, .int .i64 t170, .slice Ao10 t171.length co10, .slice Ao11 t174.length co11] 26 (0, 0)) (by (with_reducible repeat (first | refine blk_drewN ?_ _ | refine blk_drew ?_ | refine blk_alloc ?_ _)); exact BK177.out) hg (Kd.R_ne HO_10.out BK177.out (by decide))); have n5_ := Aside0.mk ((by rw [hw]; exact below_set (HB.out) GB48.out : Below w.heap.size w w72)); clear HO_6; clear HO_10; clear HO_178002; clear HO_178003; clear BK177; clear HB; have HO_6 := n0_; have HO_10 := n1_; have HO_178002 := n2_; have HO_178003 := n3_; have BK177 := n4_; have HB := n5_; clear n0_ n1_ n2_ n3_ n4_ n5_; clear hg hw hp_; have hcz73_0 : w72.cell? ⟨gb177, 0, none⟩ = some (.int .i64 t169) := (blk_cell BK177.out 0).trans rfl; have hcz73_1 : w72.cell? ⟨gb177, 1, none⟩ = some (.int .i64 t170) := (blk_cell BK177.out 1).trans rfl; have hcz73_2 : w72.cell? ⟨gb177, 2, none⟩ = some (.slice Ao10 t171.length co10) := (blk_cell BK177.out 2).trans rfl; have hcz73_3 : w72.cell? ⟨gb177, 3, none⟩ = some (.slice Ao11 t174.length co11) := (blk_cell BK177.out 3).trans rfl; have hfz73_0 := blk_frozen BK177.out 0; have hfz73_1 := blk_frozen BK177.out 1; have hfz73_2 := blk_frozen BK177.out 2; have hfz73_3 := blk_frozen BK177.out 3; have p195 : 0 ≤ (x12_30 : Int) := of_decide_eq_true (by first | (with_reducible assumption) | assumption); have q195 : x12_30 < (t174.length : Int) := of_decide_eq_true (by first | (with_reducible assumption) | assumption); obtain ⟨ad195, e195, hx195_0⟩ := Kd.at_int (Kd.R_reads' HO_178003.out).2.2 x12_30 p195 q195; cases e195; replace p195 := eq_true p195; replace q195 := eq_true q195; have p196 : 0 ≤ (x11_3 : Int) := of_decide_eq_true (by first | (with_reducible assumption) | assumption); have q196 : x11_3 < (t178.length : Int) := of_decide_eq_true (by first | (with_reducible assumption) | assumption); obtain ⟨ad196, e196, hx196_0, hx196_1⟩ := at_T32 (Kd.R_reads' HO_6.out).2.2 x11_3 p196 q196; cases e196; replace p196 := eq_true p196; replace q196 := eq_true q196))
                                            repeat (go_quiet (first | ((with_reducible refine gate_store (t := 2) (p := 107) rfl ?_); (try (rw [drewN_self wc]; generalize hq_ : World.drewN wc _ = wc; have n0_ := Aside0.mk (Kd.R_at hq_ HO_6.out); have n1_ := Aside0.mk (Kd.R_at hq_ HO_10.out); have n2_ := Aside0.mk (Kd.R_at hq_ HO_178002.out); have n3_ := Aside0.mk (Kd.R_at hq_ HO_178003.out); have n4_ := Aside0.mk (blk_at hq_ BK177.out); have n5_ := Aside0.mk (below_at hq_ HB.out); clear hq_ HO_6 HO_10 HO_178002 HO_178003 BK177 HB; have HO_6 := n0_; have HO_10 := n1_; have HO_178002 := n2_; have HO_178003 := n3_; have BK177 := n4_; have HB := n5_; clear n0_ n1_ n2_ n3_ n4_ n5_; (try (have HP71 := Kd.R_putg HO_10.out (x12_30 : Int) (wrap64 ((rd x10_30 x12_30) + 1)))))); refine store_event (t := 2) (p := 107) (v := ?vo_w72) (w1 := (wc.setCell ⟨go48, (x12_30 : Int).toNat, none⟩ (.int .i64 (wrap64 ((rd x10_30 x12_30) + 1))))) ?hg ?ho ?hn ?hr ?_; (case ho => rfl); (case hg => rfl); (case hn => rfl); (case hr => first | (go_simp; done) | (go_simp; rfl)); intro w72 hw; have hg : wc.grownBy w72 (some go48) := (by rw [hw]; exact HP71.2); have hp_ : Kd.R (Kd.int .i64) 2 w72 w.heap.size (fun k_ => some k_ ≠ (.slice Ao10 t171.length co10 : Value).ownBlock ∧ some k_ ≠ (.slice Ao11 t174.length co11 : Value).ownBlock) (.slice (some ⟨go48, 0, none⟩) x10_30.length co33) y194 := (by rw [hw, Ny194.out]; exact HP71.1); clear HP71; have n0_ := Aside0.mk (Kd.R_over' (v := (.slice (some ⟨go48, 0, none⟩) x10_30.length co33)) (by (with_reducible repeat (first | apply Kd.R_alloc | apply Kd.R_drewN | apply Kd.R_drew)); exact HO_6.out) (Kd.R_typed HO_10.out) (by decide) hg); have n1_ := Aside0.mk (hp_); have n2_ := Aside0.mk (Kd.R_after (v := (.slice (some ⟨go48, 0, none⟩) x10_30.length co33)) (v1 := (.slice (some ⟨go48, 0, none⟩) x10_30.length co33)) (ok := (fun k_ => some k_ ≠ (.slice Ao11 t174.length co11 : Value).ownBlock)) (by (with_reducible repeat (first | apply Kd.R_alloc | apply Kd.R_drewN | apply Kd.R_drew)); exact Kd.R_mono HO_178002.out (fun _ hk => ⟨hk.2, hk.1⟩)) hg (.inl rfl)); have n3_ := Aside0.mk (Kd.R_after (v := (.slice (some ⟨go48, 0, none⟩) x10_30.length co33)) (v1 := (.slice (some ⟨go48, 0, none⟩) x10_30.length co33)) (ok := (fun k_ => some k_ ≠ (.slice Ao10 t171.length co10 : Value).ownBlock)) (by (with_reducible repeat (first | apply Kd.R_alloc | apply Kd.R_drewN | apply Kd.R_drew)); exact Kd.R_mono HO_178003.out (fun _ hk => ⟨hk.2, hk.1⟩)) hg (.inl rfl)); have n4_ := Aside0.mk (blk_grown (g := gb177) (o := .cells #[.int .i64 t169, .int .i64 t170, .slice Ao10 t171.length co10, .slice Ao11 t174.length co11] 26 (0, 0)) (by (with_reducible repeat (first | refine blk_drewN ?_ _ | refine blk_drew ?_ | refine blk_alloc ?_ _)); exact BK177.out) hg (Kd.R_ne HO_10.out BK177.out (by decide))); have n5_ := Aside0.mk ((by rw [hw]; exact below_set (HB.out) GB48.out : Below w.heap.size w w72)); clear HO_6; clear HO_10; clear HO_178002; clear HO_178003; clear BK177; clear HB; have HO_6 := n0_; have HO_10 := n1_; have HO_178002 := n2_; have HO_178003 := n3_; have BK177 := n4_; have HB := n5_; clear n0_ n1_ n2_ n3_ n4_ n5_; clear hg hw hp_; have hcz73_0 : w72.cell? ⟨gb177, 0, none⟩ = some (.int .i64 t169) := (blk_cell BK177.out 0).trans rfl; have hcz73_1 : w72.cell? ⟨gb177, 1, none⟩ = some (.int .i64 t170) := (blk_cell BK177.out 1).trans rfl; have hcz73_2 : w72.cell? ⟨gb177, 2, none⟩ = some (.slice Ao10 t171.length co10) := (blk_cell BK177.out 2).trans rfl; have hcz73_3 : w72.cell? ⟨gb177, 3, none⟩ = some (.slice Ao11 t174.length co11) := (blk_cell BK177.out 3).trans rfl; have hfz73_0 := blk_frozen BK177.out 0; have hfz73_1 := blk_frozen BK177.out 1; have hfz73_2 := blk_frozen BK177.out 2; have hfz73_3 := blk_frozen BK177.out 3; have p195 : 0 ≤ (x12_30 : Int) := of_decide_eq_true (by first | (with_reducible assumption) | assumption); have q195 : x12_30 < (t174.length : Int) := of_decide_eq_true (by first | (with_reducible assumption) | assumption); obtain ⟨ad195, e195, hx195_0⟩ := Kd.at_int (Kd.R_reads' HO_178003.out).2.2 x12_30 p195 q195; cases e195; replace p195 := eq_true p195; replace q195 := eq_true q195; have p196 : 0 ≤ (x11_3 : Int) := of_decide_eq_true (by first | (with_reducible assumption) | assumption); have q196 : x11_3 < (t178.length : Int) := of_decide_eq_true (by first | (with_reducible assumption) | assumption); obtain ⟨ad196, e196, hx196_0, hx196_1⟩ := at_T32 (Kd.R_reads' HO_6.out).2.2 x11_3 p196 q196; cases e196; replace p196 := eq_true p196; replace q196 := eq_true q196)); try go_wp2_with (first | ((with_reducible refine gate_store (t := 2) (p := 107) rfl ?_); (try (rw [drewN_self wc]; generalize hq_ : World.drewN wc _ = wc; have n0_ := Aside0.mk (Kd.R_at hq_ HO_6.out); have n1_ := Aside0.mk (Kd.R_at hq_ HO_10.out); have n2_ := Aside0.mk (Kd.R_at hq_ HO_178002.out); have n3_ := Aside0.mk (Kd.R_at hq_ HO_178003.out); have n4_ := Aside0.mk (blk_at hq_ BK177.out); have n5_ := Aside0.mk (below_at hq_ HB.out); clear hq_ HO_6 HO_10 HO_178002 HO_178003 BK177 HB; have HO_6 := n0_; have HO_10 := n1_; have HO_178002 := n2_; have HO_178003 := n3_; have BK177 := n4_; have HB := n5_; clear n0_ n1_ n2_ n3_ n4_ n5_; (try (have HP71 := Kd.R_putg HO_10.out (x12_30 : Int) (wrap64 ((rd x10_30 x12_30) + 1)))))); refine store_event (t := 2) (p := 107) (v := ?vo_w72) (w1 := (wc.setCell ⟨go48, (x12_30 : Int).toNat, none⟩ (.int .i64 (wrap64 ((rd x10_30 x12_30) + 1))))) ?hg ?ho ?hn ?hr ?_; (case ho => rfl); (case hg => rfl); (case hn => rfl); (case hr => first | (go_simp; done) | (go_simp; rfl)); intro w72 hw; have hg : wc.grownBy w72 (some go48) := (by rw [hw]; exact HP71.2); have hp_ : Kd.R (Kd.int .i64) 2 w72 w.heap.size (fun k_ => some k_ ≠ (.slice Ao10 t171.length co10 : Value).ownBlock ∧ some k_ ≠ (.slice Ao11 t174.length co11 : Value).ownBlock) (.slice (some ⟨go48, 0, none⟩) x10_30.length co33) y194 := (by rw [hw, Ny194.out]; exact HP71.1); clear HP71; have n0_ := Aside0.mk (Kd.R_over' (v := (.slice (some ⟨go48, 0, none⟩) x10_30.length co33)) (by (with_reducible repeat (first | apply Kd.R_alloc | apply Kd.R_drewN | apply Kd.R_drew)); exact HO_6.out) (Kd.R_typed HO_10.out) (by decide) hg); have n1_ := Aside0.mk (hp_); have n2_ := Aside0.mk (Kd.R_after (v := (.slice (some ⟨go48, 0, none⟩) x10_30.length co33)) (v1 := (.slice (some ⟨go48, 0, none⟩) x10_30.length co33)) (ok := (fun k_ => some k_ ≠ (.slice Ao11 t174.length co11 : Value).ownBlock)) (by (with_reducible repeat (first | apply Kd.R_alloc | apply Kd.R_drewN | apply Kd.R_drew)); exact Kd.R_mono HO_178002.out (fun _ hk => ⟨hk.2, hk.1⟩)) hg (.inl rfl)); have n3_ := Aside0.mk (Kd.R_after (v := (.slice (some ⟨go48, 0, none⟩) x10_30.length co33)) (v1 := (.slice (some ⟨go48, 0, none⟩) x10_30.length co33)) (ok := (fun k_ => some k_ ≠ (.slice Ao10 t171.length co10 : Value).ownBlock)) (by (with_reducible repeat (first | apply Kd.R_alloc | apply Kd.R_drewN | apply Kd.R_drew)); exact Kd.R_mono HO_178003.out (fun _ hk => ⟨hk.2, hk.1⟩)) hg (.inl rfl)); have n4_ := Aside0.mk (blk_grown (g := gb177) (o := .cells #[.int .i64 t169, .int .i64 t170, .slice Ao10 t171.length co10, .slice Ao11 t174.length co11] 26 (0, 0)) (by (with_reducible repeat (first | refine blk_drewN ?_ _ | refine blk_drew ?_ | refine blk_alloc ?_ _)); exact BK177.out) hg (Kd.R_ne HO_10.out BK177.out (by decide))); have n5_ := Aside0.mk ((by rw [hw]; exact below_set (HB.out) GB48.out : Below w.heap.size w w72)); clear HO_6; clear HO_10; clear HO_178002; clear HO_178003; clear BK177; clear HB; have HO_6 := n0_; have HO_10 := n1_; have HO_178002 := n2_; have HO_178003 := n3_; have BK177 := n4_; have HB := n5_; clear n0_ n1_ n2_ n3_ n4_ n5_; clear hg hw hp_; have hcz73_0 : w72.cell? ⟨gb177, 0, none⟩ = some (.int .i64 t169) := (blk_cell BK177.out 0).trans rfl; have hcz73_1 : w72.cell? ⟨gb177, 1, none⟩ = some (.int .i64 t170) := (blk_cell BK177.out 1).trans rfl; have hcz73_2 : w72.cell? ⟨gb177, 2, none⟩ = some (.slice Ao10 t171.length co10) := (blk_cell BK177.out 2).trans rfl; have hcz73_3 : w72.cell? ⟨gb177, 3, none⟩ = some (.slice Ao11 t174.length co11) := (blk_cell BK177.out 3).trans rfl; have hfz73_0 := blk_frozen BK177.out 0; have hfz73_1 := blk_frozen BK177.out 1; have hfz73_2 := blk_frozen BK177.out 2; have hfz73_3 := blk_frozen BK177.out 3; have p195 : 0 ≤ (x12_30 : Int) := of_decide_eq_true (by first | (with_reducible assumption) | assumption); have q195 : x12_30 < (t174.length : Int) := of_decide_eq_true (by first | (with_reducible assumption) | assumption); obtain ⟨ad195, e195, hx195_0⟩ := Kd.at_int (Kd.R_reads' HO_178003.out).2.2 x12_30 p195 q195; cases e195; replace p195 := eq_true p195; replace q195 := eq_true q195; have p196 : 0 ≤ (x11_3 : Int) := of_decide_eq_true (by first | (with_reducible assumption) | assumption); have q196 : x11_3 < (t178.length : Int) := of_decide_eq_true (by first | (with_reducible assumption) | assumption); obtain ⟨ad196, e196, hx196_0, hx196_1⟩ := at_T32 (Kd.R_reads' HO_6.out).2.2 x11_3 p196 q196; cases e196; replace p196 := eq_true p196; replace q196 := eq_true q196)))
                                            go_ret
                                            exact ⟨by first | rfl | (simp [errW_none, errW_some] <;> rfl) | (simp [*, errW_none, errW_some] <;> rfl), by repeat (first | (with_reducible first | exact HB.out | apply below_alloc | apply pw_below_drewN | apply below_drew1 | refine below_set ?_ GE177.out) | exact HB.out)⟩
                                        · rw [if_neg c51] at H
                                          exact absurd H (by simp)
                                      · rw [if_neg c50] at H
                                        exact absurd H (by simp)
                                    · rw [if_neg c49] at H
                                      exact absurd H (by simp)
                                  · rw [if_neg c47] at H
                                    exact absurd H (by simp)
                                · rw [if_neg c46] at H
                                  exact absurd H (by simp)
                        · rw [if_neg c30] at H
                          have c30b0 : decide (x11_3 < (t178.length : Int)) = false := decide_eq_false c30
                          clear c30
                          by_cases c74 : 0 < (t178.length : Int)
                          · rw [if_pos c74] at H
                            have c74b0 : decide (0 < (t178.length : Int)) = true := decide_eq_true c74
                            have c74b1 : decide (0 < t178.length) = true := decide_eq_true (by omega)
                            clear c74
                            obtain rfl := Option.some.inj H
                            obtain ⟨Ao75, co75, eo75⟩ := Kd.R_slice HO_6.out
                            subst eo75
                            have p187 : 0 ≤ (0 : Int) := (by omega)
                            have q187 : 0 < (t178.length : Int) := of_decide_eq_true (by first | (with_reducible assumption) | assumption)
                            obtain ⟨ad187, e187, hx187_0, hx187_1⟩ := at_T32 (Kd.R_reads' HO_6.out).2.2 0 p187 q187
                            cases e187
                            have qi187 : (0 < t178.length) = True := eq_true (by omega)
                            (try rw [show ((0 : Int)).toNat = 0 from rfl] at hx187_0)
                            (try rw [show 0 * 2 = 0 from rfl] at hx187_0)
                            (try rw [Addr.add_zero'] at hx187_0)
                            (try rw [show ((0 : Int)).toNat = 0 from rfl] at hx187_1)
                            (try rw [show 0 * 2 = 0 from rfl] at hx187_1)
                            (try rw [Addr.add_zero'] at hx187_1)
                            replace p187 := eq_true p187
                            replace q187 := eq_true q187
                            have hcz76_0 : wr.cell? ⟨gb177, 0, none⟩ = some (.int .i64 t169) := (blk_cell BK177.out 0).trans rfl
                            have hcz76_1 : wr.cell? ⟨gb177, 1, none⟩ = some (.int .i64 t170) := (blk_cell BK177.out 1).trans rfl
                            have hcz76_2 : wr.cell? ⟨gb177, 2, none⟩ = some (.slice Ao10 t171.length co10) := (blk_cell BK177.out 2).trans rfl
                            have hcz76_3 : wr.cell? ⟨gb177, 3, none⟩ = some (.slice Ao11 t174.length co11) := (blk_cell BK177.out 3).trans rfl
                            have hfz76_0 := blk_frozen BK177.out 0
                            have hfz76_1 := blk_frozen BK177.out 1
                            have hfz76_2 := blk_frozen BK177.out 2
                            have hfz76_3 := blk_frozen BK177.out 3
                            go_wp2
                            repeat (go_quiet (fail); try go_wp2)
                            go_ret
                            exact ⟨by first | rfl | (simp [errW_none, errW_some] <;> rfl) | (simp [*, errW_none, errW_some] <;> rfl), by repeat (first | (with_reducible first | exact HB.out | apply below_alloc | apply pw_below_drewN | apply below_drew1 | refine below_set ?_ GE177.out) | exact HB.out)⟩
                          · rw [if_neg c74] at H
                            exact absurd H (by simp)
                  · rw [if_neg c26] at H
                    exact absurd H (by simp)
                · rw [if_neg c25] at H
                  exact absurd H (by simp)

/-- THE ONE PURE STATEMENT of laws_FnNested: yours. -/
def laws_FnNested.Pure : Prop := ∀ (l0 : List Int) (l1 : List Int), l0.length ≤ maxLen → l0.length * 1 ≤ 140737488351232 → (∀ x ∈ l0, (Lit.int .u8 x).wf = true) → l1.length ≤ maxLen → l1.length * 1 ≤ 140737488351232 → (∀ x ∈ l1, (Lit.int .u8 x).wf = true) → ∃ k, laws_FnNested.f k l0 l1 = some true
theorem laws_FnNested.walk (P : laws_FnNested.Pure) (a0 : Option Addr) (len0 cap0 : Nat) (z0 : List Int) (a1 : Option Addr) (len1 cap1 : Nat) (z1 : List Int) (w : World) (w0 : (a0 = none ∧ len0 = 0 ∧ cap0 = 0 ∧ z0 = []) ∨ ∃ x, a0 = some x ∧ len0 ≤ cap0 ∧ cap0 ≤ maxLen ∧ z0.length = cap0 ∧ (∀ i, i < z0.length → w.cell? (x.add i) = some (.int .u8 (z0.getD i 0))) ∧ ∀ n ∈ z0, (Lit.int .u8 n).wf = true) (y0 : len0 * 1 ≤ 140737488351232) (w1 : (a1 = none ∧ len1 = 0 ∧ cap1 = 0 ∧ z1 = []) ∨ ∃ x, a1 = some x ∧ len1 ≤ cap1 ∧ cap1 ≤ maxLen ∧ z1.length = cap1 ∧ (∀ i, i < z1.length → w.cell? (x.add i) = some (.int .u8 (z1.getD i 0))) ∧ ∀ n ∈ z1, (Lit.int .u8 n).wf = true) (y1 : len1 * 1 ≤ 140737488351232) :
    Calls Try.prog 3 #[.slice a0 len0 cap0, .slice a1 len1 cap1] w fun e w' => e = .returned (.bool true) ∧ Below w.heap.size w w' := by
  obtain ⟨l0, rfl, hr0, hm0, hw0, hc0⟩ := ReadsInt.ofRowC w0
  obtain ⟨l1, rfl, hr1, hm1, hw1, hc1⟩ := ReadsInt.ofRowC w1
  obtain ⟨k, h⟩ := P l0 l1 hm0 y0 hw0 hm1 y1 hw1
  refine (laws_FnNested.calls k _ _ l0 _ _ l1 true w (Kd.C_of_reads (d := (0 : Int)) (h1 := fun _ => rfl) hr0) hc0 (Kd.C_of_reads (d := (0 : Int)) (h1 := fun _ => rfl) hr1) hc1 h).mono ?_
  rintro e w' ⟨rfl, hd⟩
  exact ⟨rfl, hd⟩

end Go.Proofs.Ytbdedpodbnhkfaa.PFnNested
