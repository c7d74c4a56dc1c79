-- WRITTEN BY wip/xprint.py out of the translation, with contracts of mine put in: Lean checks it.
import Derived.Test.YtbfcnacllonnbaaDoorPFnRatiosx0
import Derived.Test.YtbfcnacllonnbaaDoorPFnRatiosx1
namespace Go.Proofs.YtbfcnacllonnbaaDoor.PFnRatios
open Go.RowKit Go.Proofs.YtbfcnacllonnbaaDoorW.PrintWords Go.Proofs.YtbfcnacllonnbaaDoorW.PrintLast Go.Proofs.YtbfcnacllonnbaaDoorW.PrintMore
attribute [local go_sem] max2_int min2_int max_two min_two max_three min_three max_four min_four   -- for this text's walks alone
set_option linter.unusedVariables false
set_option linter.unusedSimpArgs false

/-! ### laws_FnRatios: function 7 -/
mutual
def laws_FnRatios.j0 : Nat → Int → Int → Int → Int → Int → Int → Int → Bool → Option (Bool)
  | 0, _, _, _, _, _, _, _, _ => none
  | k + 1, x5, x6, x7, x8, x9, x10, x12, x106 => if x106 = true then (some false) else (laws_FnRatios.l0 k x5 x6 x7 x8 x9 x10 x12 2)
def laws_FnRatios.l0 : Nat → Int → Int → Int → Int → Int → Int → Int → Int → Option (Bool)
  | 0, _, _, _, _, _, _, _, _ => none
  | k + 1, x5, x6, x7, x8, x9, x10, x12, x18 => if x18 ≤ x10 then (if x18 = 0 then (none) else (if (Int.tmod x9 x18) = 0 then (if (Int.tmod x10 x18) = 0 then (some false) else (laws_FnRatios.l0 k x5 x6 x7 x8 x9 x10 x12 (wrap64 (x18 + 1)))) else (laws_FnRatios.l0 k x5 x6 x7 x8 x9 x10 x12 (wrap64 (x18 + 1))))) else (if (wrap64 (x5 * x8)) < (wrap64 (x7 * x6)) then (if x12 = (-1) then (some true) else (if (wrap64 (x5 * x8)) = (wrap64 (x7 * x6)) then (if x12 = 0 then (some true) else (if (wrap64 (x5 * x8)) > (wrap64 (x7 * x6)) then (some (x12 == 1)) else (some false))) else (if (wrap64 (x5 * x8)) > (wrap64 (x7 * x6)) then (some (x12 == 1)) else (some false)))) else (if (wrap64 (x5 * x8)) = (wrap64 (x7 * x6)) then (if x12 = 0 then (some true) else (if (wrap64 (x5 * x8)) > (wrap64 (x7 * x6)) then (some (x12 == 1)) else (some false))) else (if (wrap64 (x5 * x8)) > (wrap64 (x7 * x6)) then (some (x12 == 1)) else (some false))))
end
def laws_FnRatios.f (k : Nat) (l0 : List Int) (l1 : List Int) : Option (Bool) := (laws_b10Long.f l0 l1).bind fun t117 => (if t117 = true then (some true) else ((laws_b10At.f l0 0 256).bind fun t118 => ((laws_b10At.f l0 1 256).bind fun t119 => ((laws_b10At.f l0 2 256).bind fun t120 => ((laws_b10At.f l1 0 256).bind fun t121 => ((laws_b10At.f l1 1 256).bind fun t122 => ((laws_b10At.f l1 2 256).bind fun t123 => ((impl_ReduceRatio.f k (wrap64 ((wrap64 (256 * t118)) + t119)) (wrap64 (1 + t120))).bind fun bt124 => ((impl_CompareRatios.f (wrap64 ((wrap64 (256 * t118)) + t119)) (wrap64 (1 + t120)) (wrap64 ((wrap64 (256 * t121)) + t122)) (wrap64 (1 + t123))).bind fun bt127 => ((impl_RatioText.f k (wrap64 ((wrap64 (256 * t118)) + t119)) (wrap64 (1 + t120))).bind fun bt129 => ((impl_RatioText.f k bt124.1 bt124.2.1).bind fun bt131 => (if bt124.2.2 = true then (if bt127.2 = true then (if bt129.2 = true then (if bt131.2 = true then (if bt129.1.toList = bt131.1.toList then (if bt124.2.1 < 1 then (laws_FnRatios.j0 k (wrap64 ((wrap64 (256 * t118)) + t119)) (wrap64 (1 + t120)) (wrap64 ((wrap64 (256 * t121)) + t122)) (wrap64 (1 + t123)) bt124.1 bt124.2.1 bt127.1 true) else (if (wrap64 (bt124.1 * (wrap64 (1 + t120)))) = (wrap64 ((wrap64 ((wrap64 (256 * t118)) + t119)) * bt124.2.1)) then (if bt127.1 > 1 then (laws_FnRatios.j0 k (wrap64 ((wrap64 (256 * t118)) + t119)) (wrap64 (1 + t120)) (wrap64 ((wrap64 (256 * t121)) + t122)) (wrap64 (1 + t123)) bt124.1 bt124.2.1 bt127.1 true) else (laws_FnRatios.j0 k (wrap64 ((wrap64 (256 * t118)) + t119)) (wrap64 (1 + t120)) (wrap64 ((wrap64 (256 * t121)) + t122)) (wrap64 (1 + t123)) bt124.1 bt124.2.1 bt127.1 (decide (bt127.1 < (-1))))) else (laws_FnRatios.j0 k (wrap64 ((wrap64 (256 * t118)) + t119)) (wrap64 (1 + t120)) (wrap64 ((wrap64 (256 * t121)) + t122)) (wrap64 (1 + t123)) bt124.1 bt124.2.1 bt127.1 true))) else (laws_FnRatios.j0 k (wrap64 ((wrap64 (256 * t118)) + t119)) (wrap64 (1 + t120)) (wrap64 ((wrap64 (256 * t121)) + t122)) (wrap64 (1 + t123)) bt124.1 bt124.2.1 bt127.1 true)) else (laws_FnRatios.j0 k (wrap64 ((wrap64 (256 * t118)) + t119)) (wrap64 (1 + t120)) (wrap64 ((wrap64 (256 * t121)) + t122)) (wrap64 (1 + t123)) bt124.1 bt124.2.1 bt127.1 true)) else (laws_FnRatios.j0 k (wrap64 ((wrap64 (256 * t118)) + t119)) (wrap64 (1 + t120)) (wrap64 ((wrap64 (256 * t121)) + t122)) (wrap64 (1 + t123)) bt124.1 bt124.2.1 bt127.1 true)) else (laws_FnRatios.j0 k (wrap64 ((wrap64 (256 * t118)) + t119)) (wrap64 (1 + t120)) (wrap64 ((wrap64 (256 * t121)) + t122)) (wrap64 (1 + t123)) bt124.1 bt124.2.1 bt127.1 true)) else (laws_FnRatios.j0 k (wrap64 ((wrap64 (256 * t118)) + t119)) (wrap64 (1 + t120)) (wrap64 ((wrap64 (256 * t121)) + t122)) (wrap64 (1 + t123)) bt124.1 bt124.2.1 bt127.1 true)))))))))))))
theorem laws_FnRatios.mono_l : ∀ k, (∀ y0 y1 y2 y3 y4 y5 y6 y7, LeO (laws_FnRatios.j0 k y0 y1 y2 y3 y4 y5 y6 y7) (laws_FnRatios.j0 (k + 1) y0 y1 y2 y3 y4 y5 y6 y7)) ∧ (∀ y0 y1 y2 y3 y4 y5 y6 y7, LeO (laws_FnRatios.l0 k y0 y1 y2 y3 y4 y5 y6 y7) (laws_FnRatios.l0 (k + 1) y0 y1 y2 y3 y4 y5 y6 y7))
  | 0 => ⟨fun _ _ _ _ _ _ _ _ r h => by simp [laws_FnRatios.j0] at h, fun _ _ _ _ _ _ _ _ r h => by simp [laws_FnRatios.l0] at h⟩
  | k + 1 => by
    obtain ⟨ih0, ih1⟩ := laws_FnRatios.mono_l k
    refine ⟨?_, ?_⟩
    · intro y0 y1 y2 y3 y4 y5 y6 y7
      unfold laws_FnRatios.j0
      repeat' first
      | (with_reducible exact ih0 _ _ _ _ _ _ _ _)
      | (with_reducible exact ih1 _ _ _ _ _ _ _ _)
      | (with_reducible exact impl_RatioText.mono _ _ _)
      | (with_reducible exact impl_ReduceRatio.mono _ _ _)
      | (with_reducible exact LeO.refl _)
      | (with_reducible exact LeO.none _)
      | (with_reducible refine LeO.ite ?_ ?_)
      | (with_reducible refine LeO.bind ?_ (fun _ => ?_))
      | exact ih0 _ _ _ _ _ _ _ _
      | exact ih1 _ _ _ _ _ _ _ _
      | exact impl_RatioText.mono _ _ _
      | exact impl_ReduceRatio.mono _ _ _
      | exact LeO.none _
      | refine LeO.ite ?_ ?_
      | refine LeO.bind ?_ (fun _ => ?_)
    · intro y0 y1 y2 y3 y4 y5 y6 y7
      unfold laws_FnRatios.l0
      repeat' first
      | (with_reducible exact ih0 _ _ _ _ _ _ _ _)
      | (with_reducible exact ih1 _ _ _ _ _ _ _ _)
      | (with_reducible exact impl_RatioText.mono _ _ _)
      | (with_reducible exact impl_ReduceRatio.mono _ _ _)
      | (with_reducible exact LeO.refl _)
      | (with_reducible exact LeO.none _)
      | (with_reducible refine LeO.ite ?_ ?_)
      | (with_reducible refine LeO.bind ?_ (fun _ => ?_))
      | exact ih0 _ _ _ _ _ _ _ _
      | exact ih1 _ _ _ _ _ _ _ _
      | exact impl_RatioText.mono _ _ _
      | exact impl_ReduceRatio.mono _ _ _
      | exact LeO.none _
      | refine LeO.ite ?_ ?_
      | refine LeO.bind ?_ (fun _ => ?_)
theorem laws_FnRatios.mono : ∀ a0 a1 k, LeO (laws_FnRatios.f k a0 a1) (laws_FnRatios.f (k + 1) a0 a1) := by
  intro a0 a1 k
  obtain ⟨ih0, ih1⟩ := laws_FnRatios.mono_l k
  unfold laws_FnRatios.f
  repeat' first
      | (with_reducible exact ih0 _ _ _ _ _ _ _ _)
      | (with_reducible exact ih1 _ _ _ _ _ _ _ _)
      | (with_reducible exact impl_RatioText.mono _ _ _)
      | (with_reducible exact impl_ReduceRatio.mono _ _ _)
      | (with_reducible exact LeO.refl _)
      | (with_reducible exact LeO.none _)
      | (with_reducible refine LeO.ite ?_ ?_)
      | (with_reducible refine LeO.bind ?_ (fun _ => ?_))
      | exact ih0 _ _ _ _ _ _ _ _
      | exact ih1 _ _ _ _ _ _ _ _
      | exact impl_RatioText.mono _ _ _
      | exact impl_ReduceRatio.mono _ _ _
      | exact LeO.none _
      | refine LeO.ite ?_ ?_
      | refine LeO.bind ?_ (fun _ => ?_)
set_option maxHeartbeats 8000000 in
set_option maxRecDepth 100000 in
theorem laws_FnRatios.calls (k : Nat) (A0 : Option Addr) (c0 : Nat) (l0 : List Int) (A1 : Option Addr) (c1 : Nat) (l1 : List Int) (r : Bool) (w : World) (hr0 : Kd.C (Kd.int .u8) w A0 l0.length l0) (hc0 : l0.length ≤ c0) (hr1 : Kd.C (Kd.int .u8) w A1 l1.length l1) (hc1 : l1.length ≤ c1) (h : laws_FnRatios.f k l0 l1 = some r) (hamb : Door.Tab w) :
    Calls Tryd.prog 7 #[.slice A0 l0.length c0, .slice A1 l1.length c1] w fun e w' => e = .returned (.bool r) ∧ Below w.heap.size w w' := by
  have HAMB := Aside0.mk hamb
  clear hamb
  have HR0 := Aside0.mk hr0
  have HC0 := Aside0.mk hc0
  clear hr0 hc0
  have HR1 := Aside0.mk hr1
  have HC1 := Aside0.mk hc1
  clear hr1 hc1
  have HB := Aside0.mk (Below.refl w.heap.size w)
  have H : ((laws_b10Long.f l0 l1).bind fun t117 => (if t117 = true then (some true) else ((laws_b10At.f l0 0 256).bind fun t118 => ((laws_b10At.f l0 1 256).bind fun t119 => ((laws_b10At.f l0 2 256).bind fun t120 => ((laws_b10At.f l1 0 256).bind fun t121 => ((laws_b10At.f l1 1 256).bind fun t122 => ((laws_b10At.f l1 2 256).bind fun t123 => ((impl_ReduceRatio.f k (wrap64 ((wrap64 (256 * t118)) + t119)) (wrap64 (1 + t120))).bind fun bt124 => ((impl_CompareRatios.f (wrap64 ((wrap64 (256 * t118)) + t119)) (wrap64 (1 + t120)) (wrap64 ((wrap64 (256 * t121)) + t122)) (wrap64 (1 + t123))).bind fun bt127 => ((impl_RatioText.f k (wrap64 ((wrap64 (256 * t118)) + t119)) (wrap64 (1 + t120))).bind fun bt129 => ((impl_RatioText.f k bt124.1 bt124.2.1).bind fun bt131 => (if bt124.2.2 = true then (if bt127.2 = true then (if bt129.2 = true then (if bt131.2 = true then (if bt129.1.toList = bt131.1.toList then (if bt124.2.1 < 1 then (laws_FnRatios.j0 k (wrap64 ((wrap64 (256 * t118)) + t119)) (wrap64 (1 + t120)) (wrap64 ((wrap64 (256 * t121)) + t122)) (wrap64 (1 + t123)) bt124.1 bt124.2.1 bt127.1 true) else (if (wrap64 (bt124.1 * (wrap64 (1 + t120)))) = (wrap64 ((wrap64 ((wrap64 (256 * t118)) + t119)) * bt124.2.1)) then (if bt127.1 > 1 then (laws_FnRatios.j0 k (wrap64 ((wrap64 (256 * t118)) + t119)) (wrap64 (1 + t120)) (wrap64 ((wrap64 (256 * t121)) + t122)) (wrap64 (1 + t123)) bt124.1 bt124.2.1 bt127.1 true) else (laws_FnRatios.j0 k (wrap64 ((wrap64 (256 * t118)) + t119)) (wrap64 (1 + t120)) (wrap64 ((wrap64 (256 * t121)) + t122)) (wrap64 (1 + t123)) bt124.1 bt124.2.1 bt127.1 (decide (bt127.1 < (-1))))) else (laws_FnRatios.j0 k (wrap64 ((wrap64 (256 * t118)) + t119)) (wrap64 (1 + t120)) (wrap64 ((wrap64 (256 * t121)) + t122)) (wrap64 (1 + t123)) bt124.1 bt124.2.1 bt127.1 true))) else (laws_FnRatios.j0 k (wrap64 ((wrap64 (256 * t118)) + t119)) (wrap64 (1 + t120)) (wrap64 ((wrap64 (256 * t121)) + t122)) (wrap64 (1 + t123)) bt124.1 bt124.2.1 bt127.1 true)) else (laws_FnRatios.j0 k (wrap64 ((wrap64 (256 * t118)) + t119)) (wrap64 (1 + t120)) (wrap64 ((wrap64 (256 * t121)) + t122)) (wrap64 (1 + t123)) bt124.1 bt124.2.1 bt127.1 true)) else (laws_FnRatios.j0 k (wrap64 ((wrap64 (256 * t118)) + t119)) (wrap64 (1 + t120)) (wrap64 ((wrap64 (256 * t121)) + t122)) (wrap64 (1 + t123)) bt124.1 bt124.2.1 bt127.1 true)) else (laws_FnRatios.j0 k (wrap64 ((wrap64 (256 * t118)) + t119)) (wrap64 (1 + t120)) (wrap64 ((wrap64 (256 * t121)) + t122)) (wrap64 (1 + t123)) bt124.1 bt124.2.1 bt127.1 true)) else (laws_FnRatios.j0 k (wrap64 ((wrap64 (256 * t118)) + t119)) (wrap64 (1 + t120)) (wrap64 ((wrap64 (256 * t121)) + t122)) (wrap64 (1 + t123)) bt124.1 bt124.2.1 bt127.1 true)))))))))))))) = some r := h
  clear h
  replace H := Option.bind_eq_some_iff.mp H
  obtain ⟨t117, A30, H⟩ := H
  replace H : (if t117 = true then (some true) else ((laws_b10At.f l0 0 256).bind fun t118 => ((laws_b10At.f l0 1 256).bind fun t119 => ((laws_b10At.f l0 2 256).bind fun t120 => ((laws_b10At.f l1 0 256).bind fun t121 => ((laws_b10At.f l1 1 256).bind fun t122 => ((laws_b10At.f l1 2 256).bind fun t123 => ((impl_ReduceRatio.f k (wrap64 ((wrap64 (256 * t118)) + t119)) (wrap64 (1 + t120))).bind fun bt124 => ((impl_CompareRatios.f (wrap64 ((wrap64 (256 * t118)) + t119)) (wrap64 (1 + t120)) (wrap64 ((wrap64 (256 * t121)) + t122)) (wrap64 (1 + t123))).bind fun bt127 => ((impl_RatioText.f k (wrap64 ((wrap64 (256 * t118)) + t119)) (wrap64 (1 + t120))).bind fun bt129 => ((impl_RatioText.f k bt124.1 bt124.2.1).bind fun bt131 => (if bt124.2.2 = true then (if bt127.2 = true then (if bt129.2 = true then (if bt131.2 = true then (if bt129.1.toList = bt131.1.toList then (if bt124.2.1 < 1 then (laws_FnRatios.j0 k (wrap64 ((wrap64 (256 * t118)) + t119)) (wrap64 (1 + t120)) (wrap64 ((wrap64 (256 * t121)) + t122)) (wrap64 (1 + t123)) bt124.1 bt124.2.1 bt127.1 true) else (if (wrap64 (bt124.1 * (wrap64 (1 + t120)))) = (wrap64 ((wrap64 ((wrap64 (256 * t118)) + t119)) * bt124.2.1)) then (if bt127.1 > 1 then (laws_FnRatios.j0 k (wrap64 ((wrap64 (256 * t118)) + t119)) (wrap64 (1 + t120)) (wrap64 ((wrap64 (256 * t121)) + t122)) (wrap64 (1 + t123)) bt124.1 bt124.2.1 bt127.1 true) else (laws_FnRatios.j0 k (wrap64 ((wrap64 (256 * t118)) + t119)) (wrap64 (1 + t120)) (wrap64 ((wrap64 (256 * t121)) + t122)) (wrap64 (1 + t123)) bt124.1 bt124.2.1 bt127.1 (decide (bt127.1 < (-1))))) else (laws_FnRatios.j0 k (wrap64 ((wrap64 (256 * t118)) + t119)) (wrap64 (1 + t120)) (wrap64 ((wrap64 (256 * t121)) + t122)) (wrap64 (1 + t123)) bt124.1 bt124.2.1 bt127.1 true))) else (laws_FnRatios.j0 k (wrap64 ((wrap64 (256 * t118)) + t119)) (wrap64 (1 + t120)) (wrap64 ((wrap64 (256 * t121)) + t122)) (wrap64 (1 + t123)) bt124.1 bt124.2.1 bt127.1 true)) else (laws_FnRatios.j0 k (wrap64 ((wrap64 (256 * t118)) + t119)) (wrap64 (1 + t120)) (wrap64 ((wrap64 (256 * t121)) + t122)) (wrap64 (1 + t123)) bt124.1 bt124.2.1 bt127.1 true)) else (laws_FnRatios.j0 k (wrap64 ((wrap64 (256 * t118)) + t119)) (wrap64 (1 + t120)) (wrap64 ((wrap64 (256 * t121)) + t122)) (wrap64 (1 + t123)) bt124.1 bt124.2.1 bt127.1 true)) else (laws_FnRatios.j0 k (wrap64 ((wrap64 (256 * t118)) + t119)) (wrap64 (1 + t120)) (wrap64 ((wrap64 (256 * t121)) + t122)) (wrap64 (1 + t123)) bt124.1 bt124.2.1 bt127.1 true)) else (laws_FnRatios.j0 k (wrap64 ((wrap64 (256 * t118)) + t119)) (wrap64 (1 + t120)) (wrap64 ((wrap64 (256 * t121)) + t122)) (wrap64 (1 + t123)) bt124.1 bt124.2.1 bt127.1 true))))))))))))) = some r := H
  have A3 := Aside0.mk A30
  clear A30
  by_cases c4 : t117 = true
  · subst c4
    have H1 : (some true) = some r := by rw [if_pos rfl] at H; exact H
    clear H
    have H := H1
    clear H1
    obtain rfl := Option.some.inj H
    go_enter Tryd.func7, Tryd.ntmps7
    go_wp2_with (first | ((with_reducible refine gate_callee (f := 13) rfl ?_); refine goesL_ (some 21) rfl rfl Tryd.func13 (by kernel_rfl) rfl #[.slice A0 l0.length c0, .slice A1 l1.length c1] rfl (by (try simp only [List.map_toArray, List.map_cons, List.map_nil]); first | done | rfl | (simp only [List.length_drop, List.length_take]; rfl)) ?_; (with_reducible refine (laws_b10Long.calls _ _ l0 _ _ l1 true _ ?side1 ?side2 ?side3 ?side4 A3.out).mono ?_); (case side1 => repeat (first | exact HR0.out | (with_reducible refine Kd.C_alloc ?_ _) | (with_reducible refine Kd.C_drewN ?_ _) | (with_reducible refine Kd.C_drew ?_))); (case side2 => exact HC0.out); (case side3 => repeat (first | exact HR1.out | (with_reducible refine Kd.C_alloc ?_ _) | (with_reducible refine Kd.C_drewN ?_ _) | (with_reducible refine Kd.C_drew ?_))); (case side4 => exact HC1.out); rintro e w' ⟨rfl, ⟨nd, rfl⟩⟩; refine ⟨_, rfl, ?_⟩))
    go_ret
    exact ⟨by first | rfl | (simp [errW_none, errW_some] <;> rfl) | (simp [*, errW_none, errW_some] <;> rfl), by repeat (first | (with_reducible first | exact HB.out | apply below_alloc | apply pw_below_drewN | apply below_drew1) | exact HB.out)⟩
  · replace c4 := Bool.eq_false_iff.mpr c4
    subst c4
    have H1 : ((laws_b10At.f l0 0 256).bind fun t118 => ((laws_b10At.f l0 1 256).bind fun t119 => ((laws_b10At.f l0 2 256).bind fun t120 => ((laws_b10At.f l1 0 256).bind fun t121 => ((laws_b10At.f l1 1 256).bind fun t122 => ((laws_b10At.f l1 2 256).bind fun t123 => ((impl_ReduceRatio.f k (wrap64 ((wrap64 (256 * t118)) + t119)) (wrap64 (1 + t120))).bind fun bt124 => ((impl_CompareRatios.f (wrap64 ((wrap64 (256 * t118)) + t119)) (wrap64 (1 + t120)) (wrap64 ((wrap64 (256 * t121)) + t122)) (wrap64 (1 + t123))).bind fun bt127 => ((impl_RatioText.f k (wrap64 ((wrap64 (256 * t118)) + t119)) (wrap64 (1 + t120))).bind fun bt129 => ((impl_RatioText.f k bt124.1 bt124.2.1).bind fun bt131 => (if bt124.2.2 = true then (if bt127.2 = true then (if bt129.2 = true then (if bt131.2 = true then (if bt129.1.toList = bt131.1.toList then (if bt124.2.1 < 1 then (laws_FnRatios.j0 k (wrap64 ((wrap64 (256 * t118)) + t119)) (wrap64 (1 + t120)) (wrap64 ((wrap64 (256 * t121)) + t122)) (wrap64 (1 + t123)) bt124.1 bt124.2.1 bt127.1 true) else (if (wrap64 (bt124.1 * (wrap64 (1 + t120)))) = (wrap64 ((wrap64 ((wrap64 (256 * t118)) + t119)) * bt124.2.1)) then (if bt127.1 > 1 then (laws_FnRatios.j0 k (wrap64 ((wrap64 (256 * t118)) + t119)) (wrap64 (1 + t120)) (wrap64 ((wrap64 (256 * t121)) + t122)) (wrap64 (1 + t123)) bt124.1 bt124.2.1 bt127.1 true) else (laws_FnRatios.j0 k (wrap64 ((wrap64 (256 * t118)) + t119)) (wrap64 (1 + t120)) (wrap64 ((wrap64 (256 * t121)) + t122)) (wrap64 (1 + t123)) bt124.1 bt124.2.1 bt127.1 (decide (bt127.1 < (-1))))) else (laws_FnRatios.j0 k (wrap64 ((wrap64 (256 * t118)) + t119)) (wrap64 (1 + t120)) (wrap64 ((wrap64 (256 * t121)) + t122)) (wrap64 (1 + t123)) bt124.1 bt124.2.1 bt127.1 true))) else (laws_FnRatios.j0 k (wrap64 ((wrap64 (256 * t118)) + t119)) (wrap64 (1 + t120)) (wrap64 ((wrap64 (256 * t121)) + t122)) (wrap64 (1 + t123)) bt124.1 bt124.2.1 bt127.1 true)) else (laws_FnRatios.j0 k (wrap64 ((wrap64 (256 * t118)) + t119)) (wrap64 (1 + t120)) (wrap64 ((wrap64 (256 * t121)) + t122)) (wrap64 (1 + t123)) bt124.1 bt124.2.1 bt127.1 true)) else (laws_FnRatios.j0 k (wrap64 ((wrap64 (256 * t118)) + t119)) (wrap64 (1 + t120)) (wrap64 ((wrap64 (256 * t121)) + t122)) (wrap64 (1 + t123)) bt124.1 bt124.2.1 bt127.1 true)) else (laws_FnRatios.j0 k (wrap64 ((wrap64 (256 * t118)) + t119)) (wrap64 (1 + t120)) (wrap64 ((wrap64 (256 * t121)) + t122)) (wrap64 (1 + t123)) bt124.1 bt124.2.1 bt127.1 true)) else (laws_FnRatios.j0 k (wrap64 ((wrap64 (256 * t118)) + t119)) (wrap64 (1 + t120)) (wrap64 ((wrap64 (256 * t121)) + t122)) (wrap64 (1 + t123)) bt124.1 bt124.2.1 bt127.1 true)))))))))))) = some r := by rw [if_neg (show ¬ (false = true) by decide)] at H; exact H
    clear H
    have H := H1
    clear H1
    replace H := Option.bind_eq_some_iff.mp H
    obtain ⟨t118, A50, H⟩ := H
    replace H : ((laws_b10At.f l0 1 256).bind fun t119 => ((laws_b10At.f l0 2 256).bind fun t120 => ((laws_b10At.f l1 0 256).bind fun t121 => ((laws_b10At.f l1 1 256).bind fun t122 => ((laws_b10At.f l1 2 256).bind fun t123 => ((impl_ReduceRatio.f k (wrap64 ((wrap64 (256 * t118)) + t119)) (wrap64 (1 + t120))).bind fun bt124 => ((impl_CompareRatios.f (wrap64 ((wrap64 (256 * t118)) + t119)) (wrap64 (1 + t120)) (wrap64 ((wrap64 (256 * t121)) + t122)) (wrap64 (1 + t123))).bind fun bt127 => ((impl_RatioText.f k (wrap64 ((wrap64 (256 * t118)) + t119)) (wrap64 (1 + t120))).bind fun bt129 => ((impl_RatioText.f k bt124.1 bt124.2.1).bind fun bt131 => (if bt124.2.2 = true then (if bt127.2 = true then (if bt129.2 = true then (if bt131.2 = true then (if bt129.1.toList = bt131.1.toList then (if bt124.2.1 < 1 then (laws_FnRatios.j0 k (wrap64 ((wrap64 (256 * t118)) + t119)) (wrap64 (1 + t120)) (wrap64 ((wrap64 (256 * t121)) + t122)) (wrap64 (1 + t123)) bt124.1 bt124.2.1 bt127.1 true) else (if (wrap64 (bt124.1 * (wrap64 (1 + t120)))) = (wrap64 ((wrap64 ((wrap64 (256 * t118)) + t119)) * bt124.2.1)) then (if bt127.1 > 1 then (laws_FnRatios.j0 k (wrap64 ((wrap64 (256 * t118)) + t119)) (wrap64 (1 + t120)) (wrap64 ((wrap64 (256 * t121)) + t122)) (wrap64 (1 + t123)) bt124.1 bt124.2.1 bt127.1 true) else (laws_FnRatios.j0 k (wrap64 ((wrap64 (256 * t118)) + t119)) (wrap64 (1 + t120)) (wrap64 ((wrap64 (256 * t121)) + t122)) (wrap64 (1 + t123)) bt124.1 bt124.2.1 bt127.1 (decide (bt127.1 < (-1))))) else (laws_FnRatios.j0 k (wrap64 ((wrap64 (256 * t118)) + t119)) (wrap64 (1 + t120)) (wrap64 ((wrap64 (256 * t121)) + t122)) (wrap64 (1 + t123)) bt124.1 bt124.2.1 bt127.1 true))) else (laws_FnRatios.j0 k (wrap64 ((wrap64 (256 * t118)) + t119)) (wrap64 (1 + t120)) (wrap64 ((wrap64 (256 * t121)) + t122)) (wrap64 (1 + t123)) bt124.1 bt124.2.1 bt127.1 true)) else (laws_FnRatios.j0 k (wrap64 ((wrap64 (256 * t118)) + t119)) (wrap64 (1 + t120)) (wrap64 ((wrap64 (256 * t121)) + t122)) (wrap64 (1 + t123)) bt124.1 bt124.2.1 bt127.1 true)) else (laws_FnRatios.j0 k (wrap64 ((wrap64 (256 * t118)) + t119)) (wrap64 (1 + t120)) (wrap64 ((wrap64 (256 * t121)) + t122)) (wrap64 (1 + t123)) bt124.1 bt124.2.1 bt127.1 true)) else (laws_FnRatios.j0 k (wrap64 ((wrap64 (256 * t118)) + t119)) (wrap64 (1 + t120)) (wrap64 ((wrap64 (256 * t121)) + t122)) (wrap64 (1 + t123)) bt124.1 bt124.2.1 bt127.1 true)) else (laws_FnRatios.j0 k (wrap64 ((wrap64 (256 * t118)) + t119)) (wrap64 (1 + t120)) (wrap64 ((wrap64 (256 * t121)) + t122)) (wrap64 (1 + t123)) bt124.1 bt124.2.1 bt127.1 true))))))))))) = some r := H
    have A5 := Aside0.mk A50
    clear A50
    replace H := Option.bind_eq_some_iff.mp H
    obtain ⟨t119, A60, H⟩ := H
    replace H : ((laws_b10At.f l0 2 256).bind fun t120 => ((laws_b10At.f l1 0 256).bind fun t121 => ((laws_b10At.f l1 1 256).bind fun t122 => ((laws_b10At.f l1 2 256).bind fun t123 => ((impl_ReduceRatio.f k (wrap64 ((wrap64 (256 * t118)) + t119)) (wrap64 (1 + t120))).bind fun bt124 => ((impl_CompareRatios.f (wrap64 ((wrap64 (256 * t118)) + t119)) (wrap64 (1 + t120)) (wrap64 ((wrap64 (256 * t121)) + t122)) (wrap64 (1 + t123))).bind fun bt127 => ((impl_RatioText.f k (wrap64 ((wrap64 (256 * t118)) + t119)) (wrap64 (1 + t120))).bind fun bt129 => ((impl_RatioText.f k bt124.1 bt124.2.1).bind fun bt131 => (if bt124.2.2 = true then (if bt127.2 = true then (if bt129.2 = true then (if bt131.2 = true then (if bt129.1.toList = bt131.1.toList then (if bt124.2.1 < 1 then (laws_FnRatios.j0 k (wrap64 ((wrap64 (256 * t118)) + t119)) (wrap64 (1 + t120)) (wrap64 ((wrap64 (256 * t121)) + t122)) (wrap64 (1 + t123)) bt124.1 bt124.2.1 bt127.1 true) else (if (wrap64 (bt124.1 * (wrap64 (1 + t120)))) = (wrap64 ((wrap64 ((wrap64 (256 * t118)) + t119)) * bt124.2.1)) then (if bt127.1 > 1 then (laws_FnRatios.j0 k (wrap64 ((wrap64 (256 * t118)) + t119)) (wrap64 (1 + t120)) (wrap64 ((wrap64 (256 * t121)) + t122)) (wrap64 (1 + t123)) bt124.1 bt124.2.1 bt127.1 true) else (laws_FnRatios.j0 k (wrap64 ((wrap64 (256 * t118)) + t119)) (wrap64 (1 + t120)) (wrap64 ((wrap64 (256 * t121)) + t122)) (wrap64 (1 + t123)) bt124.1 bt124.2.1 bt127.1 (decide (bt127.1 < (-1))))) else (laws_FnRatios.j0 k (wrap64 ((wrap64 (256 * t118)) + t119)) (wrap64 (1 + t120)) (wrap64 ((wrap64 (256 * t121)) + t122)) (wrap64 (1 + t123)) bt124.1 bt124.2.1 bt127.1 true))) else (laws_FnRatios.j0 k (wrap64 ((wrap64 (256 * t118)) + t119)) (wrap64 (1 + t120)) (wrap64 ((wrap64 (256 * t121)) + t122)) (wrap64 (1 + t123)) bt124.1 bt124.2.1 bt127.1 true)) else (laws_FnRatios.j0 k (wrap64 ((wrap64 (256 * t118)) + t119)) (wrap64 (1 + t120)) (wrap64 ((wrap64 (256 * t121)) + t122)) (wrap64 (1 + t123)) bt124.1 bt124.2.1 bt127.1 true)) else (laws_FnRatios.j0 k (wrap64 ((wrap64 (256 * t118)) + t119)) (wrap64 (1 + t120)) (wrap64 ((wrap64 (256 * t121)) + t122)) (wrap64 (1 + t123)) bt124.1 bt124.2.1 bt127.1 true)) else (laws_FnRatios.j0 k (wrap64 ((wrap64 (256 * t118)) + t119)) (wrap64 (1 + t120)) (wrap64 ((wrap64 (256 * t121)) + t122)) (wrap64 (1 + t123)) bt124.1 bt124.2.1 bt127.1 true)) else (laws_FnRatios.j0 k (wrap64 ((wrap64 (256 * t118)) + t119)) (wrap64 (1 + t120)) (wrap64 ((wrap64 (256 * t121)) + t122)) (wrap64 (1 + t123)) bt124.1 bt124.2.1 bt127.1 true)))))))))) = some r := H
    have A6 := Aside0.mk A60
    clear A60
    replace H := Option.bind_eq_some_iff.mp H
    obtain ⟨t120, A70, H⟩ := H
    replace H : ((laws_b10At.f l1 0 256).bind fun t121 => ((laws_b10At.f l1 1 256).bind fun t122 => ((laws_b10At.f l1 2 256).bind fun t123 => ((impl_ReduceRatio.f k (wrap64 ((wrap64 (256 * t118)) + t119)) (wrap64 (1 + t120))).bind fun bt124 => ((impl_CompareRatios.f (wrap64 ((wrap64 (256 * t118)) + t119)) (wrap64 (1 + t120)) (wrap64 ((wrap64 (256 * t121)) + t122)) (wrap64 (1 + t123))).bind fun bt127 => ((impl_RatioText.f k (wrap64 ((wrap64 (256 * t118)) + t119)) (wrap64 (1 + t120))).bind fun bt129 => ((impl_RatioText.f k bt124.1 bt124.2.1).bind fun bt131 => (if bt124.2.2 = true then (if bt127.2 = true then (if bt129.2 = true then (if bt131.2 = true then (if bt129.1.toList = bt131.1.toList then (if bt124.2.1 < 1 then (laws_FnRatios.j0 k (wrap64 ((wrap64 (256 * t118)) + t119)) (wrap64 (1 + t120)) (wrap64 ((wrap64 (256 * t121)) + t122)) (wrap64 (1 + t123)) bt124.1 bt124.2.1 bt127.1 true) else (if (wrap64 (bt124.1 * (wrap64 (1 + t120)))) = (wrap64 ((wrap64 ((wrap64 (256 * t118)) + t119)) * bt124.2.1)) then (if bt127.1 > 1 then (laws_FnRatios.j0 k (wrap64 ((wrap64 (256 * t118)) + t119)) (wrap64 (1 + t120)) (wrap64 ((wrap64 (256 * t121)) + t122)) (wrap64 (1 + t123)) bt124.1 bt124.2.1 bt127.1 true) else (laws_FnRatios.j0 k (wrap64 ((wrap64 (256 * t118)) + t119)) (wrap64 (1 + t120)) (wrap64 ((wrap64 (256 * t121)) + t122)) (wrap64 (1 + t123)) bt124.1 bt124.2.1 bt127.1 (decide (bt127.1 < (-1))))) else (laws_FnRatios.j0 k (wrap64 ((wrap64 (256 * t118)) + t119)) (wrap64 (1 + t120)) (wrap64 ((wrap64 (256 * t121)) + t122)) (wrap64 (1 + t123)) bt124.1 bt124.2.1 bt127.1 true))) else (laws_FnRatios.j0 k (wrap64 ((wrap64 (256 * t118)) + t119)) (wrap64 (1 + t120)) (wrap64 ((wrap64 (256 * t121)) + t122)) (wrap64 (1 + t123)) bt124.1 bt124.2.1 bt127.1 true)) else (laws_FnRatios.j0 k (wrap64 ((wrap64 (256 * t118)) + t119)) (wrap64 (1 + t120)) (wrap64 ((wrap64 (256 * t121)) + t122)) (wrap64 (1 + t123)) bt124.1 bt124.2.1 bt127.1 true)) else (laws_FnRatios.j0 k (wrap64 ((wrap64 (256 * t118)) + t119)) (wrap64 (1 + t120)) (wrap64 ((wrap64 (256 * t121)) + t122)) (wrap64 (1 + t123)) bt124.1 bt124.2.1 bt127.1 true)) else (laws_FnRatios.j0 k (wrap64 ((wrap64 (256 * t118)) + t119)) (wrap64 (1 + t120)) (wrap64 ((wrap64 (256 * t121)) + t122)) (wrap64 (1 + t123)) bt124.1 bt124.2.1 bt127.1 true)) else (laws_FnRatios.j0 k (wrap64 ((wrap64 (256 * t118)) + t119)) (wrap64 (1 + t120)) (wrap64 ((wrap64 (256 * t121)) + t122)) (wrap64 (1 + t123)) bt124.1 bt124.2.1 bt127.1 true))))))))) = some r := H
    have A7 := Aside0.mk A70
    clear A70
    replace H := Option.bind_eq_some_iff.mp H
    obtain ⟨t121, A80, H⟩ := H
    replace H : ((laws_b10At.f l1 1 256).bind fun t122 => ((laws_b10At.f l1 2 256).bind fun t123 => ((impl_ReduceRatio.f k (wrap64 ((wrap64 (256 * t118)) + t119)) (wrap64 (1 + t120))).bind fun bt124 => ((impl_CompareRatios.f (wrap64 ((wrap64 (256 * t118)) + t119)) (wrap64 (1 + t120)) (wrap64 ((wrap64 (256 * t121)) + t122)) (wrap64 (1 + t123))).bind fun bt127 => ((impl_RatioText.f k (wrap64 ((wrap64 (256 * t118)) + t119)) (wrap64 (1 + t120))).bind fun bt129 => ((impl_RatioText.f k bt124.1 bt124.2.1).bind fun bt131 => (if bt124.2.2 = true then (if bt127.2 = true then (if bt129.2 = true then (if bt131.2 = true then (if bt129.1.toList = bt131.1.toList then (if bt124.2.1 < 1 then (laws_FnRatios.j0 k (wrap64 ((wrap64 (256 * t118)) + t119)) (wrap64 (1 + t120)) (wrap64 ((wrap64 (256 * t121)) + t122)) (wrap64 (1 + t123)) bt124.1 bt124.2.1 bt127.1 true) else (if (wrap64 (bt124.1 * (wrap64 (1 + t120)))) = (wrap64 ((wrap64 ((wrap64 (256 * t118)) + t119)) * bt124.2.1)) then (if bt127.1 > 1 then (laws_FnRatios.j0 k (wrap64 ((wrap64 (256 * t118)) + t119)) (wrap64 (1 + t120)) (wrap64 ((wrap64 (256 * t121)) + t122)) (wrap64 (1 + t123)) bt124.1 bt124.2.1 bt127.1 true) else (laws_FnRatios.j0 k (wrap64 ((wrap64 (256 * t118)) + t119)) (wrap64 (1 + t120)) (wrap64 ((wrap64 (256 * t121)) + t122)) (wrap64 (1 + t123)) bt124.1 bt124.2.1 bt127.1 (decide (bt127.1 < (-1))))) else (laws_FnRatios.j0 k (wrap64 ((wrap64 (256 * t118)) + t119)) (wrap64 (1 + t120)) (wrap64 ((wrap64 (256 * t121)) + t122)) (wrap64 (1 + t123)) bt124.1 bt124.2.1 bt127.1 true))) else (laws_FnRatios.j0 k (wrap64 ((wrap64 (256 * t118)) + t119)) (wrap64 (1 + t120)) (wrap64 ((wrap64 (256 * t121)) + t122)) (wrap64 (1 + t123)) bt124.1 bt124.2.1 bt127.1 true)) else (laws_FnRatios.j0 k (wrap64 ((wrap64 (256 * t118)) + t119)) (wrap64 (1 + t120)) (wrap64 ((wrap64 (256 * t121)) + t122)) (wrap64 (1 + t123)) bt124.1 bt124.2.1 bt127.1 true)) else (laws_FnRatios.j0 k (wrap64 ((wrap64 (256 * t118)) + t119)) (wrap64 (1 + t120)) (wrap64 ((wrap64 (256 * t121)) + t122)) (wrap64 (1 + t123)) bt124.1 bt124.2.1 bt127.1 true)) else (laws_FnRatios.j0 k (wrap64 ((wrap64 (256 * t118)) + t119)) (wrap64 (1 + t120)) (wrap64 ((wrap64 (256 * t121)) + t122)) (wrap64 (1 + t123)) bt124.1 bt124.2.1 bt127.1 true)) else (laws_FnRatios.j0 k (wrap64 ((wrap64 (256 * t118)) + t119)) (wrap64 (1 + t120)) (wrap64 ((wrap64 (256 * t121)) + t122)) (wrap64 (1 + t123)) bt124.1 bt124.2.1 bt127.1 true)))))))) = some r := H
    have A8 := Aside0.mk A80
    clear A80
    replace H := Option.bind_eq_some_iff.mp H
    obtain ⟨t122, A90, H⟩ := H
    replace H : ((laws_b10At.f l1 2 256).bind fun t123 => ((impl_ReduceRatio.f k (wrap64 ((wrap64 (256 * t118)) + t119)) (wrap64 (1 + t120))).bind fun bt124 => ((impl_CompareRatios.f (wrap64 ((wrap64 (256 * t118)) + t119)) (wrap64 (1 + t120)) (wrap64 ((wrap64 (256 * t121)) + t122)) (wrap64 (1 + t123))).bind fun bt127 => ((impl_RatioText.f k (wrap64 ((wrap64 (256 * t118)) + t119)) (wrap64 (1 + t120))).bind fun bt129 => ((impl_RatioText.f k bt124.1 bt124.2.1).bind fun bt131 => (if bt124.2.2 = true then (if bt127.2 = true then (if bt129.2 = true then (if bt131.2 = true then (if bt129.1.toList = bt131.1.toList then (if bt124.2.1 < 1 then (laws_FnRatios.j0 k (wrap64 ((wrap64 (256 * t118)) + t119)) (wrap64 (1 + t120)) (wrap64 ((wrap64 (256 * t121)) + t122)) (wrap64 (1 + t123)) bt124.1 bt124.2.1 bt127.1 true) else (if (wrap64 (bt124.1 * (wrap64 (1 + t120)))) = (wrap64 ((wrap64 ((wrap64 (256 * t118)) + t119)) * bt124.2.1)) then (if bt127.1 > 1 then (laws_FnRatios.j0 k (wrap64 ((wrap64 (256 * t118)) + t119)) (wrap64 (1 + t120)) (wrap64 ((wrap64 (256 * t121)) + t122)) (wrap64 (1 + t123)) bt124.1 bt124.2.1 bt127.1 true) else (laws_FnRatios.j0 k (wrap64 ((wrap64 (256 * t118)) + t119)) (wrap64 (1 + t120)) (wrap64 ((wrap64 (256 * t121)) + t122)) (wrap64 (1 + t123)) bt124.1 bt124.2.1 bt127.1 (decide (bt127.1 < (-1))))) else (laws_FnRatios.j0 k (wrap64 ((wrap64 (256 * t118)) + t119)) (wrap64 (1 + t120)) (wrap64 ((wrap64 (256 * t121)) + t122)) (wrap64 (1 + t123)) bt124.1 bt124.2.1 bt127.1 true))) else (laws_FnRatios.j0 k (wrap64 ((wrap64 (256 * t118)) + t119)) (wrap64 (1 + t120)) (wrap64 ((wrap64 (256 * t121)) + t122)) (wrap64 (1 + t123)) bt124.1 bt124.2.1 bt127.1 true)) else (laws_FnRatios.j0 k (wrap64 ((wrap64 (256 * t118)) + t119)) (wrap64 (1 + t120)) (wrap64 ((wrap64 (256 * t121)) + t122)) (wrap64 (1 + t123)) bt124.1 bt124.2.1 bt127.1 true)) else (laws_FnRatios.j0 k (wrap64 ((wrap64 (256 * t118)) + t119)) (wrap64 (1 + t120)) (wrap64 ((wrap64 (256 * t121)) + t122)) (wrap64 (1 + t123)) bt124.1 bt124.2.1 bt127.1 true)) else (laws_FnRatios.j0 k (wrap64 ((wrap64 (256 * t118)) + t119)) (wrap64 (1 + t120)) (wrap64 ((wrap64 (256 * t121)) + t122)) (wrap64 (1 + t123)) bt124.1 bt124.2.1 bt127.1 true)) else (laws_FnRatios.j0 k (wrap64 ((wrap64 (256 * t118)) + t119)) (wrap64 (1 + t120)) (wrap64 ((wrap64 (256 * t121)) + t122)) (wrap64 (1 + t123)) bt124.1 bt124.2.1 bt127.1 true))))))) = some r := H
    have A9 := Aside0.mk A90
    clear A90
    replace H := Option.bind_eq_some_iff.mp H
    obtain ⟨t123, A100, H⟩ := H
    replace H : ((impl_ReduceRatio.f k (wrap64 ((wrap64 (256 * t118)) + t119)) (wrap64 (1 + t120))).bind fun bt124 => ((impl_CompareRatios.f (wrap64 ((wrap64 (256 * t118)) + t119)) (wrap64 (1 + t120)) (wrap64 ((wrap64 (256 * t121)) + t122)) (wrap64 (1 + t123))).bind fun bt127 => ((impl_RatioText.f k (wrap64 ((wrap64 (256 * t118)) + t119)) (wrap64 (1 + t120))).bind fun bt129 => ((impl_RatioText.f k bt124.1 bt124.2.1).bind fun bt131 => (if bt124.2.2 = true then (if bt127.2 = true then (if bt129.2 = true then (if bt131.2 = true then (if bt129.1.toList = bt131.1.toList then (if bt124.2.1 < 1 then (laws_FnRatios.j0 k (wrap64 ((wrap64 (256 * t118)) + t119)) (wrap64 (1 + t120)) (wrap64 ((wrap64 (256 * t121)) + t122)) (wrap64 (1 + t123)) bt124.1 bt124.2.1 bt127.1 true) else (if (wrap64 (bt124.1 * (wrap64 (1 + t120)))) = (wrap64 ((wrap64 ((wrap64 (256 * t118)) + t119)) * bt124.2.1)) then (if bt127.1 > 1 then (laws_FnRatios.j0 k (wrap64 ((wrap64 (256 * t118)) + t119)) (wrap64 (1 + t120)) (wrap64 ((wrap64 (256 * t121)) + t122)) (wrap64 (1 + t123)) bt124.1 bt124.2.1 bt127.1 true) else (laws_FnRatios.j0 k (wrap64 ((wrap64 (256 * t118)) + t119)) (wrap64 (1 + t120)) (wrap64 ((wrap64 (256 * t121)) + t122)) (wrap64 (1 + t123)) bt124.1 bt124.2.1 bt127.1 (decide (bt127.1 < (-1))))) else (laws_FnRatios.j0 k (wrap64 ((wrap64 (256 * t118)) + t119)) (wrap64 (1 + t120)) (wrap64 ((wrap64 (256 * t121)) + t122)) (wrap64 (1 + t123)) bt124.1 bt124.2.1 bt127.1 true))) else (laws_FnRatios.j0 k (wrap64 ((wrap64 (256 * t118)) + t119)) (wrap64 (1 + t120)) (wrap64 ((wrap64 (256 * t121)) + t122)) (wrap64 (1 + t123)) bt124.1 bt124.2.1 bt127.1 true)) else (laws_FnRatios.j0 k (wrap64 ((wrap64 (256 * t118)) + t119)) (wrap64 (1 + t120)) (wrap64 ((wrap64 (256 * t121)) + t122)) (wrap64 (1 + t123)) bt124.1 bt124.2.1 bt127.1 true)) else (laws_FnRatios.j0 k (wrap64 ((wrap64 (256 * t118)) + t119)) (wrap64 (1 + t120)) (wrap64 ((wrap64 (256 * t121)) + t122)) (wrap64 (1 + t123)) bt124.1 bt124.2.1 bt127.1 true)) else (laws_FnRatios.j0 k (wrap64 ((wrap64 (256 * t118)) + t119)) (wrap64 (1 + t120)) (wrap64 ((wrap64 (256 * t121)) + t122)) (wrap64 (1 + t123)) bt124.1 bt124.2.1 bt127.1 true)) else (laws_FnRatios.j0 k (wrap64 ((wrap64 (256 * t118)) + t119)) (wrap64 (1 + t120)) (wrap64 ((wrap64 (256 * t121)) + t122)) (wrap64 (1 + t123)) bt124.1 bt124.2.1 bt127.1 true)))))) = some r := H
    have A10 := Aside0.mk A100
    clear A100
    replace H := Option.bind_eq_some_iff.mp H
    obtain ⟨⟨t124, t125, t126⟩, A110, H⟩ := H
    replace H : ((impl_CompareRatios.f (wrap64 ((wrap64 (256 * t118)) + t119)) (wrap64 (1 + t120)) (wrap64 ((wrap64 (256 * t121)) + t122)) (wrap64 (1 + t123))).bind fun bt127 => ((impl_RatioText.f k (wrap64 ((wrap64 (256 * t118)) + t119)) (wrap64 (1 + t120))).bind fun bt129 => ((impl_RatioText.f k t124 t125).bind fun bt131 => (if t126 = true then (if bt127.2 = true then (if bt129.2 = true then (if bt131.2 = true then (if bt129.1.toList = bt131.1.toList then (if t125 < 1 then (laws_FnRatios.j0 k (wrap64 ((wrap64 (256 * t118)) + t119)) (wrap64 (1 + t120)) (wrap64 ((wrap64 (256 * t121)) + t122)) (wrap64 (1 + t123)) t124 t125 bt127.1 true) else (if (wrap64 (t124 * (wrap64 (1 + t120)))) = (wrap64 ((wrap64 ((wrap64 (256 * t118)) + t119)) * t125)) then (if bt127.1 > 1 then (laws_FnRatios.j0 k (wrap64 ((wrap64 (256 * t118)) + t119)) (wrap64 (1 + t120)) (wrap64 ((wrap64 (256 * t121)) + t122)) (wrap64 (1 + t123)) t124 t125 bt127.1 true) else (laws_FnRatios.j0 k (wrap64 ((wrap64 (256 * t118)) + t119)) (wrap64 (1 + t120)) (wrap64 ((wrap64 (256 * t121)) + t122)) (wrap64 (1 + t123)) t124 t125 bt127.1 (decide (bt127.1 < (-1))))) else (laws_FnRatios.j0 k (wrap64 ((wrap64 (256 * t118)) + t119)) (wrap64 (1 + t120)) (wrap64 ((wrap64 (256 * t121)) + t122)) (wrap64 (1 + t123)) t124 t125 bt127.1 true))) else (laws_FnRatios.j0 k (wrap64 ((wrap64 (256 * t118)) + t119)) (wrap64 (1 + t120)) (wrap64 ((wrap64 (256 * t121)) + t122)) (wrap64 (1 + t123)) t124 t125 bt127.1 true)) else (laws_FnRatios.j0 k (wrap64 ((wrap64 (256 * t118)) + t119)) (wrap64 (1 + t120)) (wrap64 ((wrap64 (256 * t121)) + t122)) (wrap64 (1 + t123)) t124 t125 bt127.1 true)) else (laws_FnRatios.j0 k (wrap64 ((wrap64 (256 * t118)) + t119)) (wrap64 (1 + t120)) (wrap64 ((wrap64 (256 * t121)) + t122)) (wrap64 (1 + t123)) t124 t125 bt127.1 true)) else (laws_FnRatios.j0 k (wrap64 ((wrap64 (256 * t118)) + t119)) (wrap64 (1 + t120)) (wrap64 ((wrap64 (256 * t121)) + t122)) (wrap64 (1 + t123)) t124 t125 bt127.1 true)) else (laws_FnRatios.j0 k (wrap64 ((wrap64 (256 * t118)) + t119)) (wrap64 (1 + t120)) (wrap64 ((wrap64 (256 * t121)) + t122)) (wrap64 (1 + t123)) t124 t125 bt127.1 true))))) = some r := H
    have A11 := Aside0.mk A110
    clear A110
    replace H := Option.bind_eq_some_iff.mp H
    obtain ⟨⟨t127, t128⟩, A120, H⟩ := H
    replace H : ((impl_RatioText.f k (wrap64 ((wrap64 (256 * t118)) + t119)) (wrap64 (1 + t120))).bind fun bt129 => ((impl_RatioText.f k t124 t125).bind fun bt131 => (if t126 = true then (if t128 = true then (if bt129.2 = true then (if bt131.2 = true then (if bt129.1.toList = bt131.1.toList then (if t125 < 1 then (laws_FnRatios.j0 k (wrap64 ((wrap64 (256 * t118)) + t119)) (wrap64 (1 + t120)) (wrap64 ((wrap64 (256 * t121)) + t122)) (wrap64 (1 + t123)) t124 t125 t127 true) else (if (wrap64 (t124 * (wrap64 (1 + t120)))) = (wrap64 ((wrap64 ((wrap64 (256 * t118)) + t119)) * t125)) then (if t127 > 1 then (laws_FnRatios.j0 k (wrap64 ((wrap64 (256 * t118)) + t119)) (wrap64 (1 + t120)) (wrap64 ((wrap64 (256 * t121)) + t122)) (wrap64 (1 + t123)) t124 t125 t127 true) else (laws_FnRatios.j0 k (wrap64 ((wrap64 (256 * t118)) + t119)) (wrap64 (1 + t120)) (wrap64 ((wrap64 (256 * t121)) + t122)) (wrap64 (1 + t123)) t124 t125 t127 (decide (t127 < (-1))))) else (laws_FnRatios.j0 k (wrap64 ((wrap64 (256 * t118)) + t119)) (wrap64 (1 + t120)) (wrap64 ((wrap64 (256 * t121)) + t122)) (wrap64 (1 + t123)) t124 t125 t127 true))) else (laws_FnRatios.j0 k (wrap64 ((wrap64 (256 * t118)) + t119)) (wrap64 (1 + t120)) (wrap64 ((wrap64 (256 * t121)) + t122)) (wrap64 (1 + t123)) t124 t125 t127 true)) else (laws_FnRatios.j0 k (wrap64 ((wrap64 (256 * t118)) + t119)) (wrap64 (1 + t120)) (wrap64 ((wrap64 (256 * t121)) + t122)) (wrap64 (1 + t123)) t124 t125 t127 true)) else (laws_FnRatios.j0 k (wrap64 ((wrap64 (256 * t118)) + t119)) (wrap64 (1 + t120)) (wrap64 ((wrap64 (256 * t121)) + t122)) (wrap64 (1 + t123)) t124 t125 t127 true)) else (laws_FnRatios.j0 k (wrap64 ((wrap64 (256 * t118)) + t119)) (wrap64 (1 + t120)) (wrap64 ((wrap64 (256 * t121)) + t122)) (wrap64 (1 + t123)) t124 t125 t127 true)) else (laws_FnRatios.j0 k (wrap64 ((wrap64 (256 * t118)) + t119)) (wrap64 (1 + t120)) (wrap64 ((wrap64 (256 * t121)) + t122)) (wrap64 (1 + t123)) t124 t125 t127 true)))) = some r := H
    have A12 := Aside0.mk A120
    clear A120
    replace H := Option.bind_eq_some_iff.mp H
    obtain ⟨⟨t129, t130⟩, A130, H⟩ := H
    replace H : ((impl_RatioText.f k t124 t125).bind fun bt131 => (if t126 = true then (if t128 = true then (if t130 = true then (if bt131.2 = true then (if t129.toList = bt131.1.toList then (if t125 < 1 then (laws_FnRatios.j0 k (wrap64 ((wrap64 (256 * t118)) + t119)) (wrap64 (1 + t120)) (wrap64 ((wrap64 (256 * t121)) + t122)) (wrap64 (1 + t123)) t124 t125 t127 true) else (if (wrap64 (t124 * (wrap64 (1 + t120)))) = (wrap64 ((wrap64 ((wrap64 (256 * t118)) + t119)) * t125)) then (if t127 > 1 then (laws_FnRatios.j0 k (wrap64 ((wrap64 (256 * t118)) + t119)) (wrap64 (1 + t120)) (wrap64 ((wrap64 (256 * t121)) + t122)) (wrap64 (1 + t123)) t124 t125 t127 true) else (laws_FnRatios.j0 k (wrap64 ((wrap64 (256 * t118)) + t119)) (wrap64 (1 + t120)) (wrap64 ((wrap64 (256 * t121)) + t122)) (wrap64 (1 + t123)) t124 t125 t127 (decide (t127 < (-1))))) else (laws_FnRatios.j0 k (wrap64 ((wrap64 (256 * t118)) + t119)) (wrap64 (1 + t120)) (wrap64 ((wrap64 (256 * t121)) + t122)) (wrap64 (1 + t123)) t124 t125 t127 true))) else (laws_FnRatios.j0 k (wrap64 ((wrap64 (256 * t118)) + t119)) (wrap64 (1 + t120)) (wrap64 ((wrap64 (256 * t121)) + t122)) (wrap64 (1 + t123)) t124 t125 t127 true)) else (laws_FnRatios.j0 k (wrap64 ((wrap64 (256 * t118)) + t119)) (wrap64 (1 + t120)) (wrap64 ((wrap64 (256 * t121)) + t122)) (wrap64 (1 + t123)) t124 t125 t127 true)) else (laws_FnRatios.j0 k (wrap64 ((wrap64 (256 * t118)) + t119)) (wrap64 (1 + t120)) (wrap64 ((wrap64 (256 * t121)) + t122)) (wrap64 (1 + t123)) t124 t125 t127 true)) else (laws_FnRatios.j0 k (wrap64 ((wrap64 (256 * t118)) + t119)) (wrap64 (1 + t120)) (wrap64 ((wrap64 (256 * t121)) + t122)) (wrap64 (1 + t123)) t124 t125 t127 true)) else (laws_FnRatios.j0 k (wrap64 ((wrap64 (256 * t118)) + t119)) (wrap64 (1 + t120)) (wrap64 ((wrap64 (256 * t121)) + t122)) (wrap64 (1 + t123)) t124 t125 t127 true))) = some r := H
    have A13 := Aside0.mk A130
    clear A130
    replace H := Option.bind_eq_some_iff.mp H
    obtain ⟨⟨t131, t132⟩, A140, H⟩ := H
    replace H : (if t126 = true then (if t128 = true then (if t130 = true then (if t132 = true then (if t129.toList = t131.toList then (if t125 < 1 then (laws_FnRatios.j0 k (wrap64 ((wrap64 (256 * t118)) + t119)) (wrap64 (1 + t120)) (wrap64 ((wrap64 (256 * t121)) + t122)) (wrap64 (1 + t123)) t124 t125 t127 true) else (if (wrap64 (t124 * (wrap64 (1 + t120)))) = (wrap64 ((wrap64 ((wrap64 (256 * t118)) + t119)) * t125)) then (if t127 > 1 then (laws_FnRatios.j0 k (wrap64 ((wrap64 (256 * t118)) + t119)) (wrap64 (1 + t120)) (wrap64 ((wrap64 (256 * t121)) + t122)) (wrap64 (1 + t123)) t124 t125 t127 true) else (laws_FnRatios.j0 k (wrap64 ((wrap64 (256 * t118)) + t119)) (wrap64 (1 + t120)) (wrap64 ((wrap64 (256 * t121)) + t122)) (wrap64 (1 + t123)) t124 t125 t127 (decide (t127 < (-1))))) else (laws_FnRatios.j0 k (wrap64 ((wrap64 (256 * t118)) + t119)) (wrap64 (1 + t120)) (wrap64 ((wrap64 (256 * t121)) + t122)) (wrap64 (1 + t123)) t124 t125 t127 true))) else (laws_FnRatios.j0 k (wrap64 ((wrap64 (256 * t118)) + t119)) (wrap64 (1 + t120)) (wrap64 ((wrap64 (256 * t121)) + t122)) (wrap64 (1 + t123)) t124 t125 t127 true)) else (laws_FnRatios.j0 k (wrap64 ((wrap64 (256 * t118)) + t119)) (wrap64 (1 + t120)) (wrap64 ((wrap64 (256 * t121)) + t122)) (wrap64 (1 + t123)) t124 t125 t127 true)) else (laws_FnRatios.j0 k (wrap64 ((wrap64 (256 * t118)) + t119)) (wrap64 (1 + t120)) (wrap64 ((wrap64 (256 * t121)) + t122)) (wrap64 (1 + t123)) t124 t125 t127 true)) else (laws_FnRatios.j0 k (wrap64 ((wrap64 (256 * t118)) + t119)) (wrap64 (1 + t120)) (wrap64 ((wrap64 (256 * t121)) + t122)) (wrap64 (1 + t123)) t124 t125 t127 true)) else (laws_FnRatios.j0 k (wrap64 ((wrap64 (256 * t118)) + t119)) (wrap64 (1 + t120)) (wrap64 ((wrap64 (256 * t121)) + t122)) (wrap64 (1 + t123)) t124 t125 t127 true)) = some r := H
    have A14 := Aside0.mk A140
    clear A140
    have HC15 := Aside0.mk H
    clear H
    go_enter Tryd.func7, Tryd.ntmps7
    go_upto_region 11 with (first | ((with_reducible refine gate_callee (f := 13) rfl ?_); refine goesL_ (some 21) rfl rfl Tryd.func13 (by kernel_rfl) rfl #[.slice A0 l0.length c0, .slice A1 l1.length c1] rfl (by (try simp only [List.map_toArray, List.map_cons, List.map_nil]); first | done | rfl | (simp only [List.length_drop, List.length_take]; rfl)) ?_; (with_reducible refine (laws_b10Long.calls _ _ l0 _ _ l1 false _ ?side1 ?side2 ?side3 ?side4 A3.out).mono ?_); (case side1 => repeat (first | exact HR0.out | (with_reducible refine Kd.C_alloc ?_ _) | (with_reducible refine Kd.C_drewN ?_ _) | (with_reducible refine Kd.C_drew ?_))); (case side2 => exact HC0.out); (case side3 => repeat (first | exact HR1.out | (with_reducible refine Kd.C_alloc ?_ _) | (with_reducible refine Kd.C_drewN ?_ _) | (with_reducible refine Kd.C_drew ?_))); (case side4 => exact HC1.out); rintro e w' ⟨rfl, ⟨nd, rfl⟩⟩; refine ⟨_, rfl, ?_⟩) | ((with_reducible refine gate_callee (f := 20) rfl ?_); refine goesL_ (some 23) rfl rfl Tryd.func20 (by kernel_rfl) rfl #[.slice A0 l0.length c0, .int .i64 0, .int .i64 256] rfl (by (try simp only [List.map_toArray, List.map_cons, List.map_nil]); first | done | rfl | (simp only [List.length_drop, List.length_take]; rfl)) ?_; (with_reducible refine (laws_b10At.calls _ _ l0 0 256 t118 _ ?side1 ?side2 A5.out).mono ?_); (case side1 => repeat (first | exact HR0.out | (with_reducible refine Kd.C_alloc ?_ _) | (with_reducible refine Kd.C_drewN ?_ _) | (with_reducible refine Kd.C_drew ?_))); (case side2 => exact HC0.out); rintro e w' ⟨rfl, ⟨nd, rfl⟩⟩; refine ⟨_, rfl, ?_⟩) | ((with_reducible refine gate_callee (f := 20) rfl ?_); refine goesL_ (some 26) rfl rfl Tryd.func20 (by kernel_rfl) rfl #[.slice A0 l0.length c0, .int .i64 1, .int .i64 256] rfl (by (try simp only [List.map_toArray, List.map_cons, List.map_nil]); first | done | rfl | (simp only [List.length_drop, List.length_take]; rfl)) ?_; (with_reducible refine (laws_b10At.calls _ _ l0 1 256 t119 _ ?side1 ?side2 A6.out).mono ?_); (case side1 => repeat (first | exact HR0.out | (with_reducible refine Kd.C_alloc ?_ _) | (with_reducible refine Kd.C_drewN ?_ _) | (with_reducible refine Kd.C_drew ?_))); (case side2 => exact HC0.out); rintro e w' ⟨rfl, ⟨nd, rfl⟩⟩; refine ⟨_, rfl, ?_⟩) | ((with_reducible refine gate_callee (f := 20) rfl ?_); refine goesL_ (some 29) rfl rfl Tryd.func20 (by kernel_rfl) rfl #[.slice A0 l0.length c0, .int .i64 2, .int .i64 256] rfl (by (try simp only [List.map_toArray, List.map_cons, List.map_nil]); first | done | rfl | (simp only [List.length_drop, List.length_take]; rfl)) ?_; (with_reducible refine (laws_b10At.calls _ _ l0 2 256 t120 _ ?side1 ?side2 A7.out).mono ?_); (case side1 => repeat (first | exact HR0.out | (with_reducible refine Kd.C_alloc ?_ _) | (with_reducible refine Kd.C_drewN ?_ _) | (with_reducible refine Kd.C_drew ?_))); (case side2 => exact HC0.out); rintro e w' ⟨rfl, ⟨nd, rfl⟩⟩; refine ⟨_, rfl, ?_⟩) | ((with_reducible refine gate_callee (f := 20) rfl ?_); refine goesL_ (some 32) rfl rfl Tryd.func20 (by kernel_rfl) rfl #[.slice A1 l1.length c1, .int .i64 0, .int .i64 256] rfl (by (try simp only [List.map_toArray, List.map_cons, List.map_nil]); first | done | rfl | (simp only [List.length_drop, List.length_take]; rfl)) ?_; (with_reducible refine (laws_b10At.calls _ _ l1 0 256 t121 _ ?side1 ?side2 A8.out).mono ?_); (case side1 => repeat (first | exact HR1.out | (with_reducible refine Kd.C_alloc ?_ _) | (with_reducible refine Kd.C_drewN ?_ _) | (with_reducible refine Kd.C_drew ?_))); (case side2 => exact HC1.out); rintro e w' ⟨rfl, ⟨nd, rfl⟩⟩; refine ⟨_, rfl, ?_⟩) | ((with_reducible refine gate_callee (f := 20) rfl ?_); refine goesL_ (some 35) rfl rfl Tryd.func20 (by kernel_rfl) rfl #[.slice A1 l1.length c1, .int .i64 1, .int .i64 256] rfl (by (try simp only [List.map_toArray, List.map_cons, List.map_nil]); first | done | rfl | (simp only [List.length_drop, List.length_take]; rfl)) ?_; (with_reducible refine (laws_b10At.calls _ _ l1 1 256 t122 _ ?side1 ?side2 A9.out).mono ?_); (case side1 => repeat (first | exact HR1.out | (with_reducible refine Kd.C_alloc ?_ _) | (with_reducible refine Kd.C_drewN ?_ _) | (with_reducible refine Kd.C_drew ?_))); (case side2 => exact HC1.out); rintro e w' ⟨rfl, ⟨nd, rfl⟩⟩; refine ⟨_, rfl, ?_⟩) | ((with_reducible refine gate_callee (f := 20) rfl ?_); refine goesL_ (some 38) rfl rfl Tryd.func20 (by kernel_rfl) rfl #[.slice A1 l1.length c1, .int .i64 2, .int .i64 256] rfl (by (try simp only [List.map_toArray, List.map_cons, List.map_nil]); first | done | rfl | (simp only [List.length_drop, List.length_take]; rfl)) ?_; (with_reducible refine (laws_b10At.calls _ _ l1 2 256 t123 _ ?side1 ?side2 A10.out).mono ?_); (case side1 => repeat (first | exact HR1.out | (with_reducible refine Kd.C_alloc ?_ _) | (with_reducible refine Kd.C_drewN ?_ _) | (with_reducible refine Kd.C_drew ?_))); (case side2 => exact HC1.out); rintro e w' ⟨rfl, ⟨nd, rfl⟩⟩; refine ⟨_, rfl, ?_⟩) | ((with_reducible refine gate_callee (f := 35) rfl ?_); refine goesL_ (some 43) rfl rfl Tryd.func35 (by kernel_rfl) rfl #[.int .i64 (wrap64 ((wrap64 (256 * t118)) + t119)), .int .i64 (wrap64 (1 + t120))] rfl (by (try simp only [List.map_toArray, List.map_cons, List.map_nil]); first | done | rfl | (simp only [List.length_drop, List.length_take]; rfl)) ?_; (with_reducible refine (impl_ReduceRatio.calls k (wrap64 ((wrap64 (256 * t118)) + t119)) (wrap64 (1 + t120)) t124 t125 t126 _ A11.out).mono ?_); rintro e w' ⟨rfl, ⟨nd, rfl⟩⟩; refine ⟨_, rfl, ?_⟩) | ((with_reducible refine gate_callee (f := 36) rfl ?_); refine goesL_ (some 52) rfl rfl Tryd.func36 (by kernel_rfl) rfl #[.int .i64 (wrap64 ((wrap64 (256 * t118)) + t119)), .int .i64 (wrap64 (1 + t120)), .int .i64 (wrap64 ((wrap64 (256 * t121)) + t122)), .int .i64 (wrap64 (1 + t123))] rfl (by (try simp only [List.map_toArray, List.map_cons, List.map_nil]); first | done | rfl | (simp only [List.length_drop, List.length_take]; rfl)) ?_; (with_reducible refine (impl_CompareRatios.calls (wrap64 ((wrap64 (256 * t118)) + t119)) (wrap64 (1 + t120)) (wrap64 ((wrap64 (256 * t121)) + t122)) (wrap64 (1 + t123)) t127 t128 _ A12.out).mono ?_); rintro e w' ⟨rfl, ⟨nd, rfl⟩⟩; refine ⟨_, rfl, ?_⟩) | ((with_reducible refine gate_callee (f := 37) rfl ?_); refine goesL_ (some 58) rfl rfl Tryd.func37 (by kernel_rfl) rfl #[.int .i64 (wrap64 ((wrap64 (256 * t118)) + t119)), .int .i64 (wrap64 (1 + t120))] rfl (by (try simp only [List.map_toArray, List.map_cons, List.map_nil]); first | done | rfl | (simp only [List.length_drop, List.length_take]; rfl)) ?_; (with_reducible refine (impl_RatioText.calls k (wrap64 ((wrap64 (256 * t118)) + t119)) (wrap64 (1 + t120)) t129 t130 _ A13.out (Door.Tab.below HAMB.out (by repeat (first | (with_reducible first | exact HB.out | apply below_alloc | apply pw_below_drewN | apply below_drew1) | exact HB.out)))).mono ?_); rintro e w16 ⟨rfl, hb⟩; refine ⟨_, rfl, ?_⟩; have n0_ := Aside0.mk (below_step (by repeat (first | (with_reducible first | exact HB.out | apply below_alloc | apply pw_below_drewN | apply below_drew1) | exact HB.out)) hb); clear HB; have HB := n0_; clear n0_; (try clear hb); (try clear hb2); (try clear hk); (try clear hi)) | ((with_reducible refine gate_callee (f := 37) rfl ?_); refine goesL_ (some 64) rfl rfl Tryd.func37 (by kernel_rfl) rfl #[.int .i64 t124, .int .i64 t125] rfl (by (try simp only [List.map_toArray, List.map_cons, List.map_nil]); first | done | rfl | (simp only [List.length_drop, List.length_take]; rfl)) ?_; (with_reducible refine (impl_RatioText.calls k t124 t125 t131 t132 _ A14.out (Door.Tab.below HAMB.out (by repeat (first | (with_reducible first | exact HB.out | apply below_alloc | apply pw_below_drewN | apply below_drew1) | exact HB.out)))).mono ?_); rintro e w17 ⟨rfl, hb⟩; refine ⟨_, rfl, ?_⟩; have n0_ := Aside0.mk (below_step (by repeat (first | (with_reducible first | exact HB.out | apply below_alloc | apply pw_below_drewN | apply below_drew1) | exact HB.out)) hb); clear HB; have HB := n0_; clear n0_; (try clear hb); (try clear hb2); (try clear hk); (try clear hi)))
    (try simp only [Act.put, List.setIfInBounds_toArray, List.set_cons_zero, List.set_cons_succ])
    go_cut [106] (fun v106 wc => ∃ (kq : Nat) (x106_14 : Bool), v106 = .bool x106_14 ∧ Aside0 (laws_FnRatios.j0 kq (wrap64 ((wrap64 (256 * t118)) + t119)) (wrap64 (1 + t120)) (wrap64 ((wrap64 (256 * t121)) + t122)) (wrap64 (1 + t123)) t124 t125 t127 x106_14 = some r) ∧ Aside0 (kq ≤ k) ∧ Aside0 (Below w.heap.size w wc))
    case first =>
      have H := HC15.out
      clear HC15
      by_cases c18 : t126 = true
      · subst c18
        have H1 : (if t128 = true then (if t130 = true then (if t132 = true then (if t129.toList = t131.toList then (if t125 < 1 then (laws_FnRatios.j0 k (wrap64 ((wrap64 (256 * t118)) + t119)) (wrap64 (1 + t120)) (wrap64 ((wrap64 (256 * t121)) + t122)) (wrap64 (1 + t123)) t124 t125 t127 true) else (if (wrap64 (t124 * (wrap64 (1 + t120)))) = (wrap64 ((wrap64 ((wrap64 (256 * t118)) + t119)) * t125)) then (if t127 > 1 then (laws_FnRatios.j0 k (wrap64 ((wrap64 (256 * t118)) + t119)) (wrap64 (1 + t120)) (wrap64 ((wrap64 (256 * t121)) + t122)) (wrap64 (1 + t123)) t124 t125 t127 true) else (laws_FnRatios.j0 k (wrap64 ((wrap64 (256 * t118)) + t119)) (wrap64 (1 + t120)) (wrap64 ((wrap64 (256 * t121)) + t122)) (wrap64 (1 + t123)) t124 t125 t127 (decide (t127 < (-1))))) else (laws_FnRatios.j0 k (wrap64 ((wrap64 (256 * t118)) + t119)) (wrap64 (1 + t120)) (wrap64 ((wrap64 (256 * t121)) + t122)) (wrap64 (1 + t123)) t124 t125 t127 true))) else (laws_FnRatios.j0 k (wrap64 ((wrap64 (256 * t118)) + t119)) (wrap64 (1 + t120)) (wrap64 ((wrap64 (256 * t121)) + t122)) (wrap64 (1 + t123)) t124 t125 t127 true)) else (laws_FnRatios.j0 k (wrap64 ((wrap64 (256 * t118)) + t119)) (wrap64 (1 + t120)) (wrap64 ((wrap64 (256 * t121)) + t122)) (wrap64 (1 + t123)) t124 t125 t127 true)) else (laws_FnRatios.j0 k (wrap64 ((wrap64 (256 * t118)) + t119)) (wrap64 (1 + t120)) (wrap64 ((wrap64 (256 * t121)) + t122)) (wrap64 (1 + t123)) t124 t125 t127 true)) else (laws_FnRatios.j0 k (wrap64 ((wrap64 (256 * t118)) + t119)) (wrap64 (1 + t120)) (wrap64 ((wrap64 (256 * t121)) + t122)) (wrap64 (1 + t123)) t124 t125 t127 true)) = some r := by rw [if_pos rfl] at H; exact H
        clear H
        have H := H1
        clear H1
        by_cases c19 : t128 = true
        · subst c19
          have H1 : (if t130 = true then (if t132 = true then (if t129.toList = t131.toList then (if t125 < 1 then (laws_FnRatios.j0 k (wrap64 ((wrap64 (256 * t118)) + t119)) (wrap64 (1 + t120)) (wrap64 ((wrap64 (256 * t121)) + t122)) (wrap64 (1 + t123)) t124 t125 t127 true) else (if (wrap64 (t124 * (wrap64 (1 + t120)))) = (wrap64 ((wrap64 ((wrap64 (256 * t118)) + t119)) * t125)) then (if t127 > 1 then (laws_FnRatios.j0 k (wrap64 ((wrap64 (256 * t118)) + t119)) (wrap64 (1 + t120)) (wrap64 ((wrap64 (256 * t121)) + t122)) (wrap64 (1 + t123)) t124 t125 t127 true) else (laws_FnRatios.j0 k (wrap64 ((wrap64 (256 * t118)) + t119)) (wrap64 (1 + t120)) (wrap64 ((wrap64 (256 * t121)) + t122)) (wrap64 (1 + t123)) t124 t125 t127 (decide (t127 < (-1))))) else (laws_FnRatios.j0 k (wrap64 ((wrap64 (256 * t118)) + t119)) (wrap64 (1 + t120)) (wrap64 ((wrap64 (256 * t121)) + t122)) (wrap64 (1 + t123)) t124 t125 t127 true))) else (laws_FnRatios.j0 k (wrap64 ((wrap64 (256 * t118)) + t119)) (wrap64 (1 + t120)) (wrap64 ((wrap64 (256 * t121)) + t122)) (wrap64 (1 + t123)) t124 t125 t127 true)) else (laws_FnRatios.j0 k (wrap64 ((wrap64 (256 * t118)) + t119)) (wrap64 (1 + t120)) (wrap64 ((wrap64 (256 * t121)) + t122)) (wrap64 (1 + t123)) t124 t125 t127 true)) else (laws_FnRatios.j0 k (wrap64 ((wrap64 (256 * t118)) + t119)) (wrap64 (1 + t120)) (wrap64 ((wrap64 (256 * t121)) + t122)) (wrap64 (1 + t123)) t124 t125 t127 true)) = some r := by rw [if_pos rfl] at H; exact H
          clear H
          have H := H1
          clear H1
          by_cases c20 : t130 = true
          · subst c20
            have H1 : (if t132 = true then (if t129.toList = t131.toList then (if t125 < 1 then (laws_FnRatios.j0 k (wrap64 ((wrap64 (256 * t118)) + t119)) (wrap64 (1 + t120)) (wrap64 ((wrap64 (256 * t121)) + t122)) (wrap64 (1 + t123)) t124 t125 t127 true) else (if (wrap64 (t124 * (wrap64 (1 + t120)))) = (wrap64 ((wrap64 ((wrap64 (256 * t118)) + t119)) * t125)) then (if t127 > 1 then (laws_FnRatios.j0 k (wrap64 ((wrap64 (256 * t118)) + t119)) (wrap64 (1 + t120)) (wrap64 ((wrap64 (256 * t121)) + t122)) (wrap64 (1 + t123)) t124 t125 t127 true) else (laws_FnRatios.j0 k (wrap64 ((wrap64 (256 * t118)) + t119)) (wrap64 (1 + t120)) (wrap64 ((wrap64 (256 * t121)) + t122)) (wrap64 (1 + t123)) t124 t125 t127 (decide (t127 < (-1))))) else (laws_FnRatios.j0 k (wrap64 ((wrap64 (256 * t118)) + t119)) (wrap64 (1 + t120)) (wrap64 ((wrap64 (256 * t121)) + t122)) (wrap64 (1 + t123)) t124 t125 t127 true))) else (laws_FnRatios.j0 k (wrap64 ((wrap64 (256 * t118)) + t119)) (wrap64 (1 + t120)) (wrap64 ((wrap64 (256 * t121)) + t122)) (wrap64 (1 + t123)) t124 t125 t127 true)) else (laws_FnRatios.j0 k (wrap64 ((wrap64 (256 * t118)) + t119)) (wrap64 (1 + t120)) (wrap64 ((wrap64 (256 * t121)) + t122)) (wrap64 (1 + t123)) t124 t125 t127 true)) = some r := by rw [if_pos rfl] at H; exact H
            clear H
            have H := H1
            clear H1
            by_cases c21 : t132 = true
            · subst c21
              have H1 : (if t129.toList = t131.toList then (if t125 < 1 then (laws_FnRatios.j0 k (wrap64 ((wrap64 (256 * t118)) + t119)) (wrap64 (1 + t120)) (wrap64 ((wrap64 (256 * t121)) + t122)) (wrap64 (1 + t123)) t124 t125 t127 true) else (if (wrap64 (t124 * (wrap64 (1 + t120)))) = (wrap64 ((wrap64 ((wrap64 (256 * t118)) + t119)) * t125)) then (if t127 > 1 then (laws_FnRatios.j0 k (wrap64 ((wrap64 (256 * t118)) + t119)) (wrap64 (1 + t120)) (wrap64 ((wrap64 (256 * t121)) + t122)) (wrap64 (1 + t123)) t124 t125 t127 true) else (laws_FnRatios.j0 k (wrap64 ((wrap64 (256 * t118)) + t119)) (wrap64 (1 + t120)) (wrap64 ((wrap64 (256 * t121)) + t122)) (wrap64 (1 + t123)) t124 t125 t127 (decide (t127 < (-1))))) else (laws_FnRatios.j0 k (wrap64 ((wrap64 (256 * t118)) + t119)) (wrap64 (1 + t120)) (wrap64 ((wrap64 (256 * t121)) + t122)) (wrap64 (1 + t123)) t124 t125 t127 true))) else (laws_FnRatios.j0 k (wrap64 ((wrap64 (256 * t118)) + t119)) (wrap64 (1 + t120)) (wrap64 ((wrap64 (256 * t121)) + t122)) (wrap64 (1 + t123)) t124 t125 t127 true)) = some r := by rw [if_pos rfl] at H; exact H
              clear H
              have H := H1
              clear H1
              by_cases c22 : t129.toList = t131.toList
              · rw [if_pos c22] at H
                have c22b0 : (t129.toList == t131.toList) = true := beq_iff_eq.mpr c22
                have c22b1 : (t129.toList != t131.toList) = false := bne_eq_false_iff_eq.mpr c22
                clear c22
                (first | rw [c22b0] | (simp only [i64_w, i32_w]; rw [c22b0]) | skip)
                by_cases c23 : t125 < 1
                · rw [if_pos c23] at H
                  have c23b0 : decide (t125 < 1) = true := decide_eq_true c23
                  clear c23
                  have H' := Aside0.mk H
                  clear H
                  go_wp2
                  go_meet
                  case rel => exact ⟨_, (true), (by first | rfl | (simp; done) | (simp [*]; done)), H', ⟨by first | omega | exact Nat.le_refl _⟩, ⟨by repeat (first | (with_reducible first | exact HB.out | apply below_alloc | apply pw_below_drewN | apply below_drew1) | exact HB.out)⟩⟩
                · rw [if_neg c23] at H
                  have c23b0 : decide (t125 < 1) = false := decide_eq_false c23
                  clear c23
                  by_cases c24 : (wrap64 (t124 * (wrap64 (1 + t120)))) = (wrap64 ((wrap64 ((wrap64 (256 * t118)) + t119)) * t125))
                  · rw [if_pos c24] at H
                    have c24b0 : ((wrap64 (t124 * (wrap64 (1 + t120)))) == (wrap64 ((wrap64 ((wrap64 (256 * t118)) + t119)) * t125))) = true := beq_iff_eq.mpr c24
                    have c24b1 : ((wrap64 (t124 * (wrap64 (1 + t120)))) != (wrap64 ((wrap64 ((wrap64 (256 * t118)) + t119)) * t125))) = false := bne_eq_false_iff_eq.mpr c24
                    clear c24
                    by_cases c25 : t127 > 1
                    · rw [if_pos c25] at H
                      have c25b0 : decide (1 < t127) = true := decide_eq_true c25
                      clear c25
                      have H' := Aside0.mk H
                      clear H
                      go_wp2
                      go_meet
                      case rel => exact ⟨_, (true), (by first | rfl | (simp; done) | (simp [*]; done)), H', ⟨by first | omega | exact Nat.le_refl _⟩, ⟨by repeat (first | (with_reducible first | exact HB.out | apply below_alloc | apply pw_below_drewN | apply below_drew1) | exact HB.out)⟩⟩
                    · rw [if_neg c25] at H
                      have c25b0 : decide (1 < t127) = false := decide_eq_false c25
                      clear c25
                      have H' := Aside0.mk H
                      clear H
                      go_wp2
                      go_meet
                      case rel => exact ⟨_, (decide (t127 < (-1))), (by first | rfl | (simp; done) | (simp [*]; done)), H', ⟨by first | omega | exact Nat.le_refl _⟩, ⟨by repeat (first | (with_reducible first | exact HB.out | apply below_alloc | apply pw_below_drewN | apply below_drew1) | exact HB.out)⟩⟩
                  · rw [if_neg c24] at H
                    have c24b0 : ((wrap64 (t124 * (wrap64 (1 + t120)))) == (wrap64 ((wrap64 ((wrap64 (256 * t118)) + t119)) * t125))) = false := beq_eq_false_iff_ne.mpr c24
                    have c24b1 : ((wrap64 (t124 * (wrap64 (1 + t120)))) != (wrap64 ((wrap64 ((wrap64 (256 * t118)) + t119)) * t125))) = true := bne_iff_ne.mpr c24
                    have H' := Aside0.mk H
                    clear H
                    go_wp2
                    go_meet
                    case rel => exact ⟨_, (true), (by first | rfl | (simp; done) | (simp [*]; done)), H', ⟨by first | omega | exact Nat.le_refl _⟩, ⟨by repeat (first | (with_reducible first | exact HB.out | apply below_alloc | apply pw_below_drewN | apply below_drew1) | exact HB.out)⟩⟩
              · rw [if_neg c22] at H
                have c22b0 : (t129.toList == t131.toList) = false := beq_eq_false_iff_ne.mpr c22
                have c22b1 : (t129.toList != t131.toList) = true := bne_iff_ne.mpr c22
                (first | rw [c22b0] | (simp only [i64_w, i32_w]; rw [c22b0]) | skip)
                have H' := Aside0.mk H
                clear H
                go_wp2
                go_meet
                case rel => exact ⟨_, (true), (by first | rfl | (simp; done) | (simp [*]; done)), H', ⟨by first | omega | exact Nat.le_refl _⟩, ⟨by repeat (first | (with_reducible first | exact HB.out | apply below_alloc | apply pw_below_drewN | apply below_drew1) | exact HB.out)⟩⟩
            · replace c21 := Bool.eq_false_iff.mpr c21
              subst c21
              have H1 : (laws_FnRatios.j0 k (wrap64 ((wrap64 (256 * t118)) + t119)) (wrap64 (1 + t120)) (wrap64 ((wrap64 (256 * t121)) + t122)) (wrap64 (1 + t123)) t124 t125 t127 true) = some r := by rw [if_neg (show ¬ (false = true) by decide)] at H; exact H
              clear H
              have H := H1
              clear H1
              have H' := Aside0.mk H
              clear H
              go_wp2
              go_meet
              case rel => exact ⟨_, (true), (by first | rfl | (simp; done) | (simp [*]; done)), H', ⟨by first | omega | exact Nat.le_refl _⟩, ⟨by repeat (first | (with_reducible first | exact HB.out | apply below_alloc | apply pw_below_drewN | apply below_drew1) | exact HB.out)⟩⟩
          · replace c20 := Bool.eq_false_iff.mpr c20
            subst c20
            have H1 : (laws_FnRatios.j0 k (wrap64 ((wrap64 (256 * t118)) + t119)) (wrap64 (1 + t120)) (wrap64 ((wrap64 (256 * t121)) + t122)) (wrap64 (1 + t123)) t124 t125 t127 true) = some r := by rw [if_neg (show ¬ (false = true) by decide)] at H; exact H
            clear H
            have H := H1
            clear H1
            have H' := Aside0.mk H
            clear H
            go_wp2
            go_meet
            case rel => exact ⟨_, (true), (by first | rfl | (simp; done) | (simp [*]; done)), H', ⟨by first | omega | exact Nat.le_refl _⟩, ⟨by repeat (first | (with_reducible first | exact HB.out | apply below_alloc | apply pw_below_drewN | apply below_drew1) | exact HB.out)⟩⟩
        · replace c19 := Bool.eq_false_iff.mpr c19
          subst c19
          have H1 : (laws_FnRatios.j0 k (wrap64 ((wrap64 (256 * t118)) + t119)) (wrap64 (1 + t120)) (wrap64 ((wrap64 (256 * t121)) + t122)) (wrap64 (1 + t123)) t124 t125 t127 true) = some r := by rw [if_neg (show ¬ (false = true) by decide)] at H; exact H
          clear H
          have H := H1
          clear H1
          have H' := Aside0.mk H
          clear H
          go_wp2
          go_meet
          case rel => exact ⟨_, (true), (by first | rfl | (simp; done) | (simp [*]; done)), H', ⟨by first | omega | exact Nat.le_refl _⟩, ⟨by repeat (first | (with_reducible first | exact HB.out | apply below_alloc | apply pw_below_drewN | apply below_drew1) | exact HB.out)⟩⟩
      · replace c18 := Bool.eq_false_iff.mpr c18
        subst c18
        have H1 : (laws_FnRatios.j0 k (wrap64 ((wrap64 (256 * t118)) + t119)) (wrap64 (1 + t120)) (wrap64 ((wrap64 (256 * t121)) + t122)) (wrap64 (1 + t123)) t124 t125 t127 true) = some r := by rw [if_neg (show ¬ (false = true) by decide)] at H; exact H
        clear H
        have H := H1
        clear H1
        have H' := Aside0.mk H
        clear H
        go_wp2
        go_meet
        case rel => exact ⟨_, (true), (by first | rfl | (simp; done) | (simp [*]; done)), H', ⟨by first | omega | exact Nat.le_refl _⟩, ⟨by repeat (first | (with_reducible first | exact HB.out | apply below_alloc | apply pw_below_drewN | apply below_drew1) | exact HB.out)⟩⟩
    case rest =>
      clear HC15
      try clear c1
      try clear c2
      try clear p2
      try clear c3
      try clear c4
      try clear p6
      try clear c7
      try clear c13
      try clear c18
      try clear c19
      try clear c20
      try clear c21
      try clear c22
      try clear c22b0
      try clear c22b1
      try clear c23
      try clear c23b0
      try clear c24
      try clear c24b0
      try clear c24b1
      try clear c25
      try clear c25b0
      obtain ⟨kq, x106_14, rfl, HA, HJ14, HB⟩ := hcut
      cases kq with
      | zero => exact absurd HA.out (by simp [laws_FnRatios.j0])
      | succ kj14 =>
        have H := HA.out
        clear HA
        simp only [laws_FnRatios.j0] at H
        by_cases c26 : x106_14 = true
        · subst c26
          have H1 : (some false) = some r := by rw [if_pos rfl] at H; exact H
          clear H
          have H := H1
          clear H1
          obtain rfl := Option.some.inj H
          go_wp2
          go_ret
          exact ⟨by first | rfl | (simp [errW_none, errW_some] <;> rfl) | (simp [*, errW_none, errW_some] <;> rfl), by repeat (first | (with_reducible first | exact HB.out | apply below_alloc | apply pw_below_drewN | apply below_drew1) | exact HB.out)⟩
        · replace c26 := Bool.eq_false_iff.mpr c26
          subst c26
          have H1 : (laws_FnRatios.l0 kj14 (wrap64 ((wrap64 (256 * t118)) + t119)) (wrap64 (1 + t120)) (wrap64 ((wrap64 (256 * t121)) + t122)) (wrap64 (1 + t123)) t124 t125 t127 2) = some r := by rw [if_neg (show ¬ (false = true) by decide)] at H; exact H
          clear H
          have H := H1
          clear H1
          have H' := Aside0.mk H
          clear H
          go_wp2
          go_loopg [18] kj14 (fun kq v18 w' => ∃ (x18_2 : Int), v18 = .int .i64 x18_2 ∧ Aside0 (laws_FnRatios.l0 kq (wrap64 ((wrap64 (256 * t118)) + t119)) (wrap64 (1 + t120)) (wrap64 ((wrap64 (256 * t121)) + t122)) (wrap64 (1 + t123)) t124 t125 t127 x18_2 = some r) ∧ Aside0 (kq ≤ kj14) ∧ Aside0 (Below w.heap.size w w'))
          case atStart => exact ⟨(2), (by first | rfl | (simp; done) | (simp [*]; done)), H', ⟨Nat.le_refl _⟩, ⟨by repeat (first | (with_reducible first | exact HB.out | apply below_alloc | apply pw_below_drewN | apply below_drew1) | exact HB.out)⟩⟩
          case round =>
            clear H'
            try clear c1
            try clear c2
            try clear p2
            try clear c3
            try clear c4
            try clear p6
            try clear c7
            try clear c13
            try clear c18
            try clear c19
            try clear c20
            try clear c21
            try clear c22
            try clear c22b0
            try clear c22b1
            try clear c23
            try clear c23b0
            try clear c24
            try clear c24b0
            try clear c24b1
            try clear c25
            try clear c25b0
            try clear c26
            try clear p2
            try clear p6
            obtain ⟨x18_2, rfl, HA, HK2, HB⟩ := hrel
            cases gk with
            | zero => exact absurd HA.out (by simp [laws_FnRatios.l0])
            | succ k2 =>
              have H := HA.out
              clear HA
              simp only [laws_FnRatios.l0] at H
              by_cases c27 : x18_2 ≤ t125
              · rw [if_pos c27] at H
                have c27b0 : decide (x18_2 ≤ t125) = true := decide_eq_true c27
                clear c27
                by_cases c28 : x18_2 = 0
                · rw [if_pos c28] at H
                  exact absurd H (by simp)
                · rw [if_neg c28] at H
                  have c28b0 : (x18_2 == 0) = false := beq_eq_false_iff_ne.mpr c28
                  have c28b1 : (x18_2 != 0) = true := bne_iff_ne.mpr c28
                  by_cases c29 : (Int.tmod t124 x18_2) = 0
                  · rw [if_pos c29] at H
                    have c29b0 : ((Int.tmod t124 x18_2) == 0) = true := beq_iff_eq.mpr c29
                    have c29b1 : ((Int.tmod t124 x18_2) != 0) = false := bne_eq_false_iff_eq.mpr c29
                    clear c29
                    by_cases c30 : (Int.tmod t125 x18_2) = 0
                    · rw [if_pos c30] at H
                      have c30b0 : ((Int.tmod t125 x18_2) == 0) = true := beq_iff_eq.mpr c30
                      have c30b1 : ((Int.tmod t125 x18_2) != 0) = false := bne_eq_false_iff_eq.mpr c30
                      clear c30
                      obtain rfl := Option.some.inj H
                      go_wp2
                      go_ret
                      exact ⟨by first | rfl | (simp [errW_none, errW_some] <;> rfl) | (simp [*, errW_none, errW_some] <;> rfl), by repeat (first | (with_reducible first | exact HB.out | apply below_alloc | apply pw_below_drewN | apply below_drew1) | exact HB.out)⟩
                    · rw [if_neg c30] at H
                      have c30b0 : ((Int.tmod t125 x18_2) == 0) = false := beq_eq_false_iff_ne.mpr c30
                      have c30b1 : ((Int.tmod t125 x18_2) != 0) = true := bne_iff_ne.mpr c30
                      have H' := Aside0.mk H
                      clear H
                      go_wp2
                      go_roundg k2
                      case measure => have := HJ14.out; have := HK2.out; omega
                      case rel => exact ⟨(wrap64 (x18_2 + 1)), (by first | rfl | (simp; done) | (simp [*]; done)), H', ⟨by have := HJ14.out; have := HK2.out; omega⟩, ⟨by repeat (first | (with_reducible first | exact HB.out | apply below_alloc | apply pw_below_drewN | apply below_drew1) | exact HB.out)⟩⟩
                  · rw [if_neg c29] at H
                    have c29b0 : ((Int.tmod t124 x18_2) == 0) = false := beq_eq_false_iff_ne.mpr c29
                    have c29b1 : ((Int.tmod t124 x18_2) != 0) = true := bne_iff_ne.mpr c29
                    have H' := Aside0.mk H
                    clear H
                    go_wp2
                    go_roundg k2
                    case measure => have := HJ14.out; have := HK2.out; omega
                    case rel => exact ⟨(wrap64 (x18_2 + 1)), (by first | rfl | (simp; done) | (simp [*]; done)), H', ⟨by have := HJ14.out; have := HK2.out; omega⟩, ⟨by repeat (first | (with_reducible first | exact HB.out | apply below_alloc | apply pw_below_drewN | apply below_drew1) | exact HB.out)⟩⟩
              · rw [if_neg c27] at H
                have c27b0 : decide (x18_2 ≤ t125) = false := decide_eq_false c27
                clear c27
                by_cases c31 : (wrap64 ((wrap64 ((wrap64 (256 * t118)) + t119)) * (wrap64 (1 + t123)))) < (wrap64 ((wrap64 ((wrap64 (256 * t121)) + t122)) * (wrap64 (1 + t120))))
                · rw [if_pos c31] at H
                  have c31b0 : decide ((wrap64 ((wrap64 ((wrap64 (256 * t118)) + t119)) * (wrap64 (1 + t123)))) < (wrap64 ((wrap64 ((wrap64 (256 * t121)) + t122)) * (wrap64 (1 + t120))))) = true := decide_eq_true c31
                  clear c31
                  by_cases c32 : t127 = (-1)
                  · rw [if_pos c32] at H
                    have c32b0 : (t127 == (-1)) = true := beq_iff_eq.mpr c32
                    have c32b1 : (t127 != (-1)) = false := bne_eq_false_iff_eq.mpr c32
                    clear c32
                    obtain rfl := Option.some.inj H
                    go_wp2
                    go_ret
                    exact ⟨by first | rfl | (simp [errW_none, errW_some] <;> rfl) | (simp [*, errW_none, errW_some] <;> rfl), by repeat (first | (with_reducible first | exact HB.out | apply below_alloc | apply pw_below_drewN | apply below_drew1) | exact HB.out)⟩
                  · rw [if_neg c32] at H
                    have c32b0 : (t127 == (-1)) = false := beq_eq_false_iff_ne.mpr c32
                    have c32b1 : (t127 != (-1)) = true := bne_iff_ne.mpr c32
                    by_cases c33 : (wrap64 ((wrap64 ((wrap64 (256 * t118)) + t119)) * (wrap64 (1 + t123)))) = (wrap64 ((wrap64 ((wrap64 (256 * t121)) + t122)) * (wrap64 (1 + t120))))
                    · rw [if_pos c33] at H
                      have c33b0 : ((wrap64 ((wrap64 ((wrap64 (256 * t118)) + t119)) * (wrap64 (1 + t123)))) == (wrap64 ((wrap64 ((wrap64 (256 * t121)) + t122)) * (wrap64 (1 + t120))))) = true := beq_iff_eq.mpr c33
                      have c33b1 : ((wrap64 ((wrap64 ((wrap64 (256 * t118)) + t119)) * (wrap64 (1 + t123)))) != (wrap64 ((wrap64 ((wrap64 (256 * t121)) + t122)) * (wrap64 (1 + t120))))) = false := bne_eq_false_iff_eq.mpr c33
                      clear c33
                      by_cases c34 : t127 = 0
                      · rw [if_pos c34] at H
                        have c34b0 : (t127 == 0) = true := beq_iff_eq.mpr c34
                        have c34b1 : (t127 != 0) = false := bne_eq_false_iff_eq.mpr c34
                        clear c34
                        obtain rfl := Option.some.inj H
                        go_wp2
                        go_ret
                        exact ⟨by first | rfl | (simp [errW_none, errW_some] <;> rfl) | (simp [*, errW_none, errW_some] <;> rfl), by repeat (first | (with_reducible first | exact HB.out | apply below_alloc | apply pw_below_drewN | apply below_drew1) | exact HB.out)⟩
                      · rw [if_neg c34] at H
                        have c34b0 : (t127 == 0) = false := beq_eq_false_iff_ne.mpr c34
                        have c34b1 : (t127 != 0) = true := bne_iff_ne.mpr c34
                        by_cases c35 : (wrap64 ((wrap64 ((wrap64 (256 * t118)) + t119)) * (wrap64 (1 + t123)))) > (wrap64 ((wrap64 ((wrap64 (256 * t121)) + t122)) * (wrap64 (1 + t120))))
                        · rw [if_pos c35] at H
                          have c35b0 : decide ((wrap64 ((wrap64 ((wrap64 (256 * t121)) + t122)) * (wrap64 (1 + t120)))) < (wrap64 ((wrap64 ((wrap64 (256 * t118)) + t119)) * (wrap64 (1 + t123))))) = true := decide_eq_true c35
                          clear c35
                          obtain rfl := Option.some.inj H
                          go_wp2
                          go_ret
                          exact ⟨by first | rfl | (simp [errW_none, errW_some] <;> rfl) | (simp [*, errW_none, errW_some] <;> rfl), by repeat (first | (with_reducible first | exact HB.out | apply below_alloc | apply pw_below_drewN | apply below_drew1) | exact HB.out)⟩
                        · rw [if_neg c35] at H
                          have c35b0 : decide ((wrap64 ((wrap64 ((wrap64 (256 * t121)) + t122)) * (wrap64 (1 + t120)))) < (wrap64 ((wrap64 ((wrap64 (256 * t118)) + t119)) * (wrap64 (1 + t123))))) = false := decide_eq_false c35
                          clear c35
                          obtain rfl := Option.some.inj H
                          go_wp2
                          go_ret
                          exact ⟨by first | rfl | (simp [errW_none, errW_some] <;> rfl) | (simp [*, errW_none, errW_some] <;> rfl), by repeat (first | (with_reducible first | exact HB.out | apply below_alloc | apply pw_below_drewN | apply below_drew1) | exact HB.out)⟩
                    · rw [if_neg c33] at H
                      have c33b0 : ((wrap64 ((wrap64 ((wrap64 (256 * t118)) + t119)) * (wrap64 (1 + t123)))) == (wrap64 ((wrap64 ((wrap64 (256 * t121)) + t122)) * (wrap64 (1 + t120))))) = false := beq_eq_false_iff_ne.mpr c33
                      have c33b1 : ((wrap64 ((wrap64 ((wrap64 (256 * t118)) + t119)) * (wrap64 (1 + t123)))) != (wrap64 ((wrap64 ((wrap64 (256 * t121)) + t122)) * (wrap64 (1 + t120))))) = true := bne_iff_ne.mpr c33
                      by_cases c36 : (wrap64 ((wrap64 ((wrap64 (256 * t118)) + t119)) * (wrap64 (1 + t123)))) > (wrap64 ((wrap64 ((wrap64 (256 * t121)) + t122)) * (wrap64 (1 + t120))))
                      · rw [if_pos c36] at H
                        have c36b0 : decide ((wrap64 ((wrap64 ((wrap64 (256 * t121)) + t122)) * (wrap64 (1 + t120)))) < (wrap64 ((wrap64 ((wrap64 (256 * t118)) + t119)) * (wrap64 (1 + t123))))) = true := decide_eq_true c36
                        clear c36
                        obtain rfl := Option.some.inj H
                        go_wp2
                        go_ret
                        exact ⟨by first | rfl | (simp [errW_none, errW_some] <;> rfl) | (simp [*, errW_none, errW_some] <;> rfl), by repeat (first | (with_reducible first | exact HB.out | apply below_alloc | apply pw_below_drewN | apply below_drew1) | exact HB.out)⟩
                      · rw [if_neg c36] at H
                        have c36b0 : decide ((wrap64 ((wrap64 ((wrap64 (256 * t121)) + t122)) * (wrap64 (1 + t120)))) < (wrap64 ((wrap64 ((wrap64 (256 * t118)) + t119)) * (wrap64 (1 + t123))))) = false := decide_eq_false c36
                        clear c36
                        obtain rfl := Option.some.inj H
                        go_wp2
                        go_ret
                        exact ⟨by first | rfl | (simp [errW_none, errW_some] <;> rfl) | (simp [*, errW_none, errW_some] <;> rfl), by repeat (first | (with_reducible first | exact HB.out | apply below_alloc | apply pw_below_drewN | apply below_drew1) | exact HB.out)⟩
                · rw [if_neg c31] at H
                  have c31b0 : decide ((wrap64 ((wrap64 ((wrap64 (256 * t118)) + t119)) * (wrap64 (1 + t123)))) < (wrap64 ((wrap64 ((wrap64 (256 * t121)) + t122)) * (wrap64 (1 + t120))))) = false := decide_eq_false c31
                  clear c31
                  by_cases c37 : (wrap64 ((wrap64 ((wrap64 (256 * t118)) + t119)) * (wrap64 (1 + t123)))) = (wrap64 ((wrap64 ((wrap64 (256 * t121)) + t122)) * (wrap64 (1 + t120))))
                  · rw [if_pos c37] at H
                    have c37b0 : ((wrap64 ((wrap64 ((wrap64 (256 * t118)) + t119)) * (wrap64 (1 + t123)))) == (wrap64 ((wrap64 ((wrap64 (256 * t121)) + t122)) * (wrap64 (1 + t120))))) = true := beq_iff_eq.mpr c37
                    have c37b1 : ((wrap64 ((wrap64 ((wrap64 (256 * t118)) + t119)) * (wrap64 (1 + t123)))) != (wrap64 ((wrap64 ((wrap64 (256 * t121)) + t122)) * (wrap64 (1 + t120))))) = false := bne_eq_false_iff_eq.mpr c37
                    clear c37
                    by_cases c38 : t127 = 0
                    · rw [if_pos c38] at H
                      have c38b0 : (t127 == 0) = true := beq_iff_eq.mpr c38
                      have c38b1 : (t127 != 0) = false := bne_eq_false_iff_eq.mpr c38
                      clear c38
                      obtain rfl := Option.some.inj H
                      go_wp2
                      go_ret
                      exact ⟨by first | rfl | (simp [errW_none, errW_some] <;> rfl) | (simp [*, errW_none, errW_some] <;> rfl), by repeat (first | (with_reducible first | exact HB.out | apply below_alloc | apply pw_below_drewN | apply below_drew1) | exact HB.out)⟩
                    · rw [if_neg c38] at H
                      have c38b0 : (t127 == 0) = false := beq_eq_false_iff_ne.mpr c38
                      have c38b1 : (t127 != 0) = true := bne_iff_ne.mpr c38
                      by_cases c39 : (wrap64 ((wrap64 ((wrap64 (256 * t118)) + t119)) * (wrap64 (1 + t123)))) > (wrap64 ((wrap64 ((wrap64 (256 * t121)) + t122)) * (wrap64 (1 + t120))))
                      · rw [if_pos c39] at H
                        have c39b0 : decide ((wrap64 ((wrap64 ((wrap64 (256 * t121)) + t122)) * (wrap64 (1 + t120)))) < (wrap64 ((wrap64 ((wrap64 (256 * t118)) + t119)) * (wrap64 (1 + t123))))) = true := decide_eq_true c39
                        clear c39
                        obtain rfl := Option.some.inj H
                        go_wp2
                        go_ret
                        exact ⟨by first | rfl | (simp [errW_none, errW_some] <;> rfl) | (simp [*, errW_none, errW_some] <;> rfl), by repeat (first | (with_reducible first | exact HB.out | apply below_alloc | apply pw_below_drewN | apply below_drew1) | exact HB.out)⟩
                      · rw [if_neg c39] at H
                        have c39b0 : decide ((wrap64 ((wrap64 ((wrap64 (256 * t121)) + t122)) * (wrap64 (1 + t120)))) < (wrap64 ((wrap64 ((wrap64 (256 * t118)) + t119)) * (wrap64 (1 + t123))))) = false := decide_eq_false c39
                        clear c39
                        obtain rfl := Option.some.inj H
                        go_wp2
                        go_ret
                        exact ⟨by first | rfl | (simp [errW_none, errW_some] <;> rfl) | (simp [*, errW_none, errW_some] <;> rfl), by repeat (first | (with_reducible first | exact HB.out | apply below_alloc | apply pw_below_drewN | apply below_drew1) | exact HB.out)⟩
                  · rw [if_neg c37] at H
                    have c37b0 : ((wrap64 ((wrap64 ((wrap64 (256 * t118)) + t119)) * (wrap64 (1 + t123)))) == (wrap64 ((wrap64 ((wrap64 (256 * t121)) + t122)) * (wrap64 (1 + t120))))) = false := beq_eq_false_iff_ne.mpr c37
                    have c37b1 : ((wrap64 ((wrap64 ((wrap64 (256 * t118)) + t119)) * (wrap64 (1 + t123)))) != (wrap64 ((wrap64 ((wrap64 (256 * t121)) + t122)) * (wrap64 (1 + t120))))) = true := bne_iff_ne.mpr c37
                    by_cases c40 : (wrap64 ((wrap64 ((wrap64 (256 * t118)) + t119)) * (wrap64 (1 + t123)))) > (wrap64 ((wrap64 ((wrap64 (256 * t121)) + t122)) * (wrap64 (1 + t120))))
                    · rw [if_pos c40] at H
                      have c40b0 : decide ((wrap64 ((wrap64 ((wrap64 (256 * t121)) + t122)) * (wrap64 (1 + t120)))) < (wrap64 ((wrap64 ((wrap64 (256 * t118)) + t119)) * (wrap64 (1 + t123))))) = true := decide_eq_true c40
                      clear c40
                      obtain rfl := Option.some.inj H
                      go_wp2
                      go_ret
                      exact ⟨by first | rfl | (simp [errW_none, errW_some] <;> rfl) | (simp [*, errW_none, errW_some] <;> rfl), by repeat (first | (with_reducible first | exact HB.out | apply below_alloc | apply pw_below_drewN | apply below_drew1) | exact HB.out)⟩
                    · rw [if_neg c40] at H
                      have c40b0 : decide ((wrap64 ((wrap64 ((wrap64 (256 * t121)) + t122)) * (wrap64 (1 + t120)))) < (wrap64 ((wrap64 ((wrap64 (256 * t118)) + t119)) * (wrap64 (1 + t123))))) = false := decide_eq_false c40
                      clear c40
                      obtain rfl := Option.some.inj H
                      go_wp2
                      go_ret
                      exact ⟨by first | rfl | (simp [errW_none, errW_some] <;> rfl) | (simp [*, errW_none, errW_some] <;> rfl), by repeat (first | (with_reducible first | exact HB.out | apply below_alloc | apply pw_below_drewN | apply below_drew1) | exact HB.out)⟩

end Go.Proofs.YtbfcnacllonnbaaDoor.PFnRatios
