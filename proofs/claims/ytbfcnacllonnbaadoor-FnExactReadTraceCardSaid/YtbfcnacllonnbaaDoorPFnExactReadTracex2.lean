-- WRITTEN BY wip/xprint.py out of the translation, with contracts of mine put in: Lean checks it.
import Derived.Test.YtbfcnacllonnbaaDoorPFnExactReadTracex0
namespace Go.Proofs.YtbfcnacllonnbaaDoor.PFnExactReadTrace
open Go.RowKit Go.Proofs.YtbfcnacllonnbaaDoorW.PrintWords Go.Proofs.YtbfcnacllonnbaaDoorW.PrintLast Go.Proofs.YtbfcnacllonnbaaDoorW.PrintMore
attribute [local go_sem] max2_int min2_int max_two min_two max_three min_three max_four min_four   -- for this text's walks alone
set_option linter.unusedVariables false
set_option linter.unusedSimpArgs false

/-! ### impl_Decimal: function 34: by hand -/
def impl_Decimal.f (a0 : Int) : Option ByteArray := if -9223372036854775808 ≤ a0 ∧ a0 ≤ 9223372036854775807 then some ⟨(Lib.itoa a0).toArray⟩ else none
set_option maxHeartbeats 2000000 in
theorem impl_Decimal.calls (a0 : Int) (r : ByteArray) (w : World) (h : impl_Decimal.f a0 = some r) (hamb : Door.Tab w) :
    Calls Tryd.prog 34 #[.int .i64 a0] w fun e w' => e = .returned (.string r) ∧ Below w.heap.size w w' := by
  unfold impl_Decimal.f at h
  split at h
  case isFalse => cases h
  case isTrue hb =>
  obtain rfl := Option.some.inj h
  clear h
  have hc := Door.format_at a0 hb.1 hb.2 w hamb
  clear hb hamb
  generalize (⟨(Lib.itoa a0).toArray⟩ : ByteArray) = r at hc ⊢
  go_enter Tryd.func34, Tryd.ntmps34
  go_wp2_with fail
  refine hc.mono ?_
  clear hc
  rintro e w' ⟨rfl, hb⟩
  have HB := Aside0.mk hb
  clear hb
  go_wp2_with fail
  go_ret
  exact ⟨rfl, HB.out⟩


/-! ### impl_inRange: function 54 -/
def impl_inRange.f (a0 : Int) (a1 : Int) (a2 : Int) : Option (Bool) := if a1 ≤ a0 then (some (decide (a0 ≤ a2))) else (some false)
set_option maxHeartbeats 8000000 in
set_option maxRecDepth 100000 in
theorem impl_inRange.calls (a0 : Int) (a1 : Int) (a2 : Int) (r : Bool) (w : World) (h : impl_inRange.f a0 a1 a2 = some r) :
    Calls Tryd.prog 54 #[.int .i64 a0, .int .i64 a1, .int .i64 a2] w fun e w' => e = .returned (.bool r) ∧ Drawn0 w w' := by
  have H : (if a1 ≤ a0 then (some (decide (a0 ≤ a2))) else (some false)) = some r := h
  clear h
  by_cases c4 : a1 ≤ a0
  · rw [if_pos c4] at H
    have c4b0 : decide (a1 ≤ a0) = true := decide_eq_true c4
    clear c4
    obtain rfl := Option.some.inj H
    go_enter Tryd.func54, Tryd.ntmps54
    go_wp2
    go_ret
    exact ⟨by first | rfl | (simp; done) | (simp [*]; done), by repeat (first | exact Drawn0.refl _ | apply Drawn0.step)⟩
  · rw [if_neg c4] at H
    have c4b0 : decide (a1 ≤ a0) = false := decide_eq_false c4
    clear c4
    obtain rfl := Option.some.inj H
    go_enter Tryd.func54, Tryd.ntmps54
    go_wp2
    go_ret
    exact ⟨by first | rfl | (simp; done) | (simp [*]; done), by repeat (first | exact Drawn0.refl _ | apply Drawn0.step)⟩

/-! ### impl_ReadDecimal: function 46: by hand -/
def impl_ReadDecimal.out (s : ByteArray) : Int × Bool := match Lib.parseIntB 64 s.data.toList with
  | .ok v => if (-1000000000 ≤ v ∧ v ≤ 1000000000) ∧ (⟨(Lib.itoa v).toArray⟩ : ByteArray).toList = s.toList then (v, true) else (0, false)
  | _ => (0, false)
def impl_ReadDecimal.f (a0 : ByteArray) : Option (Int × Bool) := if a0.size ≤ 140737488351232 then some (impl_ReadDecimal.out a0) else none
set_option maxHeartbeats 4000000 in
set_option maxRecDepth 100000 in
theorem impl_ReadDecimal.calls (a0 : ByteArray) (r1 : Int) (r2 : Bool) (w : World) (h : impl_ReadDecimal.f a0 = some (r1, r2)) (hamb : Door.Amb w) :
    Calls Tryd.prog 46 #[.string a0] w fun e w' => e = .returned (.tuple #[.int .i64 r1, .bool r2]) ∧ Below w.heap.size w w' := by
  unfold impl_ReadDecimal.f at h
  split at h
  case isFalse => cases h
  case isTrue hb =>
  have hb2 : a0.size ≤ 281474976710656 := by omega
  clear hb
  have ho := Option.some.inj h
  clear h
  unfold impl_ReadDecimal.out at ho
  have HAMB := Aside0.mk hamb
  clear hamb
  have no : (∀ v, Lib.parseIntB 64 a0.data.toList ≠ .ok v) → Calls Tryd.prog 46 #[.string a0] w fun e w' => e = .returned (.tuple #[.int .i64 0, .bool false]) ∧ Below w.heap.size w w' := by
    intro hp
    have h1 := Door.parse_no a0 hb2 hp w HAMB.out.2
    clear hp ho hb2
    go_enter Tryd.func46, Tryd.ntmps46
    go_wp2_with fail
    refine h1.mono ?_
    clear h1
    rintro e w1 ⟨q, t, N, rfl, b1⟩
    have B1 := Aside0.mk b1
    clear b1
    go_wp2
    go_ret2
    exact ⟨rfl, B1.out⟩
  rcases hp : Lib.parseIntB 64 a0.data.toList with v | _ | _
  rotate_left
  · rw [hp] at ho
    injection ho with e1 e2
    subst e1 e2
    exact no (fun v => by rw [hp]; intro e; cases e)
  · rw [hp] at ho
    injection ho with e1 e2
    subst e1 e2
    exact no (fun v => by rw [hp]; intro e; cases e)
  · clear no
    rw [hp] at ho
    change (if (-1000000000 ≤ v ∧ v ≤ 1000000000) ∧ (⟨(Lib.itoa v).toArray⟩ : ByteArray).toList = a0.toList then (v, true) else ((0 : Int), false)) = (r1, r2) at ho
    have h1 := Door.parse_ok a0 hb2 v hp w
    clear hp hb2
    have hi : impl_inRange.f v (-1000000000) 1000000000 = some (decide (-1000000000 ≤ v ∧ v ≤ 1000000000)) := by
      unfold impl_inRange.f
      by_cases c1 : -1000000000 ≤ v <;> by_cases c2 : v ≤ 1000000000 <;> simp [c1, c2]
    by_cases hr : -1000000000 ≤ v ∧ v ≤ 1000000000
    · rw [decide_eq_true hr] at hi
      have hd : impl_Decimal.f v = some ⟨(Lib.itoa v).toArray⟩ := by unfold impl_Decimal.f; rw [if_pos (by omega)]
      generalize (⟨(Lib.itoa v).toArray⟩ : ByteArray) = T at hd ho
      have HI := Aside0.mk hi
      have HD := Aside0.mk hd
      clear hi hd
      by_cases he : T.toList = a0.toList
      · rw [if_pos ⟨hr, he⟩] at ho
        injection ho with e1 e2
        subst e1 e2
        have c1 : (T.toList == a0.toList) = true := beq_iff_eq.mpr he
        have c2 : (T.toList != a0.toList) = false := bne_eq_false_iff_eq.mpr he
        clear he hr
        go_enter Tryd.func46, Tryd.ntmps46
        go_wp2_with fail
        refine h1.mono ?_
        clear h1
        rintro e w1 ⟨rfl, b1⟩
        have B1 := Aside0.mk b1
        clear b1
        go_wp2_with fail
        refine (impl_inRange.calls v (-1000000000) 1000000000 true _ HI.out).mono ?_
        rintro e w2 ⟨rfl, ⟨q2, rfl⟩⟩
        have B2 := Aside0.mk (pw_below_drewN B1.out q2)
        clear B1
        go_wp2_with fail
        refine (impl_Decimal.calls v T _ HD.out (HAMB.out.1.below B2.out)).mono ?_
        rintro e w3 ⟨rfl, b3⟩
        have B3 := Aside0.mk (below_step B2.out b3)
        clear B2 b3
        go_wp2
        go_ret2
        exact ⟨rfl, B3.out⟩
      · rw [if_neg (fun h => he h.2)] at ho
        injection ho with e1 e2
        subst e1 e2
        have c1 : (T.toList == a0.toList) = false := beq_eq_false_iff_ne.mpr he
        have c2 : (T.toList != a0.toList) = true := bne_iff_ne.mpr he
        clear he hr
        go_enter Tryd.func46, Tryd.ntmps46
        go_wp2_with fail
        refine h1.mono ?_
        clear h1
        rintro e w1 ⟨rfl, b1⟩
        have B1 := Aside0.mk b1
        clear b1
        go_wp2_with fail
        refine (impl_inRange.calls v (-1000000000) 1000000000 true _ HI.out).mono ?_
        rintro e w2 ⟨rfl, ⟨q2, rfl⟩⟩
        have B2 := Aside0.mk (pw_below_drewN B1.out q2)
        clear B1
        go_wp2_with fail
        refine (impl_Decimal.calls v T _ HD.out (HAMB.out.1.below B2.out)).mono ?_
        rintro e w3 ⟨rfl, b3⟩
        have B3 := Aside0.mk (below_step B2.out b3)
        clear B2 b3
        go_wp2
        go_ret2
        exact ⟨rfl, B3.out⟩
    · rw [decide_eq_false hr] at hi
      rw [if_neg (fun h => hr h.1)] at ho
      injection ho with e1 e2
      subst e1 e2
      have HI := Aside0.mk hi
      clear hi hr
      go_enter Tryd.func46, Tryd.ntmps46
      go_wp2_with fail
      refine h1.mono ?_
      clear h1
      rintro e w1 ⟨rfl, b1⟩
      have B1 := Aside0.mk b1
      clear b1
      go_wp2_with fail
      refine (impl_inRange.calls v (-1000000000) 1000000000 false _ HI.out).mono ?_
      rintro e w2 ⟨rfl, ⟨q2, rfl⟩⟩
      have B2 := Aside0.mk (pw_below_drewN B1.out q2)
      clear B1
      go_wp2
      go_ret2
      exact ⟨rfl, B2.out⟩


/-! ### strings_Split: function 58: by hand -/
def strings_Split.f (a0 : ByteArray) (a1 : ByteArray) : Option (List ByteArray) := if a0.size < 4294967281 ∧ 1 ≤ a1.size then some (Lib.splitB a1 0 (Lib.countB a0 a1) a0) else none
theorem strings_Split.calls (a0 : ByteArray) (a1 : ByteArray) (r : List ByteArray) (w : World) (h : strings_Split.f a0 a1 = some r) (hamb : Door.MaxL w) :
    Calls Tryd.prog 58 #[.string a0, .string a1] w fun e w' => ∃ v0_ : Value, e = .returned (v0_) ∧ Kd.R Kd.string 9 w' w.heap.size (fun _ => True) v0_ r ∧ Below w.heap.size w w' := by
  unfold strings_Split.f at h
  split at h
  case isFalse => cases h
  case isTrue hb =>
  obtain rfl := Option.some.inj h
  exact Door.split_at a0 a1 w hb.1 hb.2 hamb


/-! ### impl_Access_113: function 113: by hand -/
/-- The place of the first element at which p holds, counted from i; -1 if there is none. -/
def fstOf {α : Type} (p : α → Bool) : List α → Nat → Int
  | [], _ => -1
  | y :: r, i => if p y = true then (i : Int) else fstOf p r (i + 1)
theorem fstOf_ge {α : Type} (p : α → Bool) (l : List α) : ∀ i, decide (0 ≤ fstOf p l i) = l.any p := by
  induction l with
  | nil => intro i; rfl
  | cons y r ih =>
    intro i
    rw [fstOf, List.any_cons]
    by_cases h : p y = true
    · rw [if_pos h, h, Bool.true_or, decide_eq_true (by omega)]
    · rw [if_neg h, Bool.eq_false_iff.mpr h, Bool.false_or, ih]
theorem drop_getD {α : Type} (d : α) (l : List α) (i : Nat) (h : i < l.length) : l.drop i = l.getD i d :: l.drop (i + 1) := by
  rw [List.drop_eq_getElem_cons h, List.getD_eq_getElem?_getD, List.getElem?_eq_getElem h]
  rfl
/-- A function value that decides of an access; it may make memory. -/
def DecidesA (g : Nat) (lb : Array Value) (p : S45 → Bool) (w : World) : Prop :=
  ∀ (x : S45) (W : World), Below w.heap.size w W → Calls Tryd.prog g (#[.agg #[.int .i64 x.f0, .int .i64 x.f1]] ++ lb) W fun e w' => e = .returned (.bool (p x)) ∧ Below W.heap.size W w'
set_option maxHeartbeats 2000000 in
theorem IndexFuncAccess.at_ (p : S45 → Bool) (g : Nat) (lb : Array Value) (eg : ∀ args w, (callFunc g args).run Tryd.prog w = .ok (.enter g args) w) (A : Option Addr) (c : Nat) (xs : List S45) (w : World)
    (hp : DecidesA g lb p w) (hr : Kd.C k45 w A xs.length xs) :
    Calls Tryd.prog 113 #[.slice A xs.length c, .func (.func g) #[] lb] w fun e w' => e = .returned (.int .i64 (fstOf p xs 0)) ∧ Below w.heap.size w w' := by
  have hu := Tryd.underlying45
  have hm := Kd.C_max hr
  have HP := Aside0.mk hp
  have HR := Aside0.mk hr
  clear hp hr
  go_enter Tryd.func113, Tryd.ntmps113
  go_wp2
  go_loopg [5, 8] xs.length (fun gg _ s8 wr => ∃ kk : Nat, kk ≤ xs.length ∧ xs.length - kk ≤ gg ∧ s8 = .int .i64 kk ∧ Aside0 (Below w.heap.size w wr) ∧ Aside0 (fstOf p xs 0 = fstOf p (xs.drop kk) kk))
  case atStart => exact ⟨0, Nat.zero_le _, by omega, rfl, ⟨Below.refl _ _⟩, ⟨rfl⟩⟩
  case round =>
    obtain ⟨kk, hkk, hg, rfl, HB, A1⟩ := hrel
    by_cases hlt : kk < xs.length
    · have hltz : (kk : Int) < (xs.length : Int) := by omega
      obtain ⟨ad, e1, hcell, hcell2⟩ := at_T45 (Kd.C_below HR.out HB.out) (kk : Int) (by omega) hltz
      subst e1
      have D : Aside0 (xs.drop kk = rd_T45 xs (kk : Int) :: xs.drop (kk + 1)) := ⟨by unfold rd_T45; rw [Int.toNat_natCast]; exact drop_getD _ xs kk hlt⟩
      generalize rd_T45 xs (kk : Int) = y at hcell hcell2 D
      rw [Int.toNat_natCast] at hcell hcell2
      have HC := Aside0.mk (HP.out y wr HB.out)
      cases hq : p y with
      | true =>
        have A2 : Aside0 (fstOf p xs 0 = (kk : Int)) := ⟨by rw [A1.out, D.out, fstOf, if_pos hq]⟩
        have HC2 := HC.out
        rw [hq] at HC2
        clear hq HC
        go_wp2_with fail
        refine HC2.mono ?_
        clear HC2
        rintro e w' ⟨rfl, hb⟩
        have HB2 := Aside0.mk (below_step HB.out hb)
        clear hb
        go_wp2_with fail
        go_ret
        exact ⟨congrArg (fun z => Ending.returned (.int .i64 z)) A2.out.symm, HB2.out⟩
      | false =>
        have A2 : Aside0 (fstOf p xs 0 = fstOf p (xs.drop (kk + 1)) (kk + 1)) := ⟨by rw [A1.out, D.out, fstOf, if_neg (by rw [hq]; decide)]⟩
        have HC2 := HC.out
        rw [hq] at HC2
        clear hq HC
        go_wp2_with fail
        refine HC2.mono ?_
        clear HC2
        rintro e w' ⟨rfl, hb⟩
        have HB2 := Aside0.mk (below_step HB.out hb)
        clear hb
        go_wp2_with fail
        go_roundg (xs.length - (kk + 1))
        case measure => omega
        case rel => exact ⟨kk + 1, by omega, by omega, by go_num, HB2, A2⟩
    · have hltz : ¬ (kk : Int) < (xs.length : Int) := by omega
      have A2 : Aside0 (fstOf p xs 0 = -1) := ⟨by rw [A1.out, List.drop_eq_nil_of_le (by omega), fstOf]⟩
      go_wp2
      go_ret
      exact ⟨congrArg (fun z => Ending.returned (.int .i64 z)) A2.out.symm, HB.out⟩


/-! ### impl_Access_88: function 88: by hand -/
theorem ContainsFuncAccess.has (p : S45 → Bool) (g : Nat) (lb : Array Value) (eg : ∀ args w, (callFunc g args).run Tryd.prog w = .ok (.enter g args) w) (A : Option Addr) (c : Nat) (xs : List S45) (w : World)
    (hp : DecidesA g lb p w) (hr : Kd.C k45 w A xs.length xs) :
    Calls Tryd.prog 88 #[.slice A xs.length c, .func (.func g) #[] lb] w fun e w' => e = .returned (.bool (xs.any p)) ∧ Below w.heap.size w w' := by
  rw [← fstOf_ge p xs 0]
  have hcall := IndexFuncAccess.at_ p g lb eg A c xs w hp hr
  clear hp hr
  generalize fstOf p xs 0 = r at hcall ⊢
  go_enter Tryd.func88, Tryd.ntmps88
  go_wp2_with fail
  refine hcall.mono ?_
  clear hcall
  rintro e w' ⟨rfl, hb⟩
  have HB := Aside0.mk hb
  clear hb
  go_wp2_with fail
  go_ret
  exact ⟨rfl, HB.out⟩


/-! ### impl_isKind: function 90 -/
def impl_isKind.f (a0 : Int) : Option (Bool) := (impl_inRange.f a0 0 1).bind fun t101 => (some t101)
set_option maxHeartbeats 8000000 in
set_option maxRecDepth 100000 in
theorem impl_isKind.calls (a0 : Int) (r : Bool) (w : World) (h : impl_isKind.f a0 = some r) :
    Calls Tryd.prog 90 #[.int .i64 a0] w fun e w' => e = .returned (.bool r) ∧ Drawn0 w w' := by
  have H : ((impl_inRange.f a0 0 1).bind fun t101 => (some t101)) = some r := h
  clear h
  replace H := Option.bind_eq_some_iff.mp H
  obtain ⟨t101, A20, H⟩ := H
  replace H : (some t101) = some r := H
  have A2 := Aside0.mk A20
  clear A20
  obtain rfl := Option.some.inj H
  go_enter Tryd.func90, Tryd.ntmps90
  go_wp2_with (first | ((with_reducible refine gate_callee (f := 54) rfl ?_); refine goesL_ (some 4) rfl rfl Tryd.func54 (by kernel_rfl) rfl #[.int .i64 a0, .int .i64 0, .int .i64 1] rfl (by (try simp only [List.map_toArray, List.map_cons, List.map_nil]); first | done | rfl | (simp only [List.length_drop, List.length_take]; rfl)) ?_; (with_reducible refine (impl_inRange.calls a0 0 1 t101 _ A2.out).mono ?_); rintro e w' ⟨rfl, ⟨nd, rfl⟩⟩; refine ⟨_, rfl, ?_⟩))
  go_ret
  exact ⟨by first | rfl | (simp; done) | (simp [*]; done), by repeat (first | exact Drawn0.refl _ | apply Drawn0.step)⟩

/-! ### impl_isAddress: function 91 -/
def impl_isAddress.f (a0 : Int) : Option (Bool) := (impl_inRange.f a0 0 63).bind fun t102 => (some t102)
set_option maxHeartbeats 8000000 in
set_option maxRecDepth 100000 in
theorem impl_isAddress.calls (a0 : Int) (r : Bool) (w : World) (h : impl_isAddress.f a0 = some r) :
    Calls Tryd.prog 91 #[.int .i64 a0] w fun e w' => e = .returned (.bool r) ∧ Drawn0 w w' := by
  have H : ((impl_inRange.f a0 0 63).bind fun t102 => (some t102)) = some r := h
  clear h
  replace H := Option.bind_eq_some_iff.mp H
  obtain ⟨t102, A20, H⟩ := H
  replace H : (some t102) = some r := H
  have A2 := Aside0.mk A20
  clear A20
  obtain rfl := Option.some.inj H
  go_enter Tryd.func91, Tryd.ntmps91
  go_wp2_with (first | ((with_reducible refine gate_callee (f := 54) rfl ?_); refine goesL_ (some 4) rfl rfl Tryd.func54 (by kernel_rfl) rfl #[.int .i64 a0, .int .i64 0, .int .i64 63] rfl (by (try simp only [List.map_toArray, List.map_cons, List.map_nil]); first | done | rfl | (simp only [List.length_drop, List.length_take]; rfl)) ?_; (with_reducible refine (impl_inRange.calls a0 0 63 t102 _ A2.out).mono ?_); rintro e w' ⟨rfl, ⟨nd, rfl⟩⟩; refine ⟨_, rfl, ?_⟩))
  go_ret
  exact ⟨by first | rfl | (simp; done) | (simp [*]; done), by repeat (first | exact Drawn0.refl _ | apply Drawn0.step)⟩

/-! ### impl_ValidTrace: function 60: by hand -/
/-- An access of a trace. -/
def accOk (x : S45) : Bool := decide (0 ≤ x.f0 ∧ x.f0 ≤ 1 ∧ 0 ≤ x.f1 ∧ x.f1 ≤ 63)
theorem impl_isKind.tells (x : Int) : impl_isKind.f x = some (decide (0 ≤ x ∧ x ≤ 1)) := by
  unfold impl_isKind.f impl_inRange.f
  by_cases h : 0 ≤ x <;> by_cases g : x ≤ 1 <;> simp [h, g]
theorem impl_isAddress.tells (x : Int) : impl_isAddress.f x = some (decide (0 ≤ x ∧ x ≤ 63)) := by
  unfold impl_isAddress.f impl_inRange.f
  by_cases h : 0 ≤ x <;> by_cases g : x ≤ 63 <;> simp [h, g]
theorem impl_ValidTrace.closure (w : World) : DecidesA 89 #[] (fun x => !accOk x) w := by
  intro x W hb
  clear hb
  obtain ⟨a, b⟩ := x
  show Calls Tryd.prog 89 #[.agg #[.int .i64 a, .int .i64 b]] W fun e w' => e = .returned (.bool (!accOk ⟨a, b⟩)) ∧ Below W.heap.size W w'
  have hu := Tryd.underlying45
  have k1 := impl_isKind.tells a
  have k2 := impl_isAddress.tells b
  have he : (!accOk ⟨a, b⟩) = (!(decide (0 ≤ a ∧ a ≤ 1)) || !(decide (0 ≤ b ∧ b ≤ 63))) := by
    unfold accOk
    by_cases h1 : 0 ≤ a <;> by_cases h2 : a ≤ 1 <;> by_cases h3 : 0 ≤ b <;> by_cases h4 : b ≤ 63 <;> simp [h1, h2, h3, h4]
  rw [he]
  clear he
  generalize decide (0 ≤ a ∧ a ≤ 1) = r1 at k1 ⊢
  generalize decide (0 ≤ b ∧ b ≤ 63) = r2 at k2 ⊢
  have K1 := Aside0.mk k1
  have K2 := Aside0.mk k2
  clear k1 k2
  cases r1 with
  | true =>
    go_enter Tryd.func89, Tryd.ntmps89
    go_wp2_with (first | (go_at_call 90; (with_reducible refine (impl_isKind.calls a true _ K1.out).mono ?_); rintro e w' ⟨rfl, ⟨nd, rfl⟩⟩; (try first | exact ⟨rfl, _, World.drewN_drewN _ _ _⟩ | exact ⟨rfl, _, Eq.trans (World.drewN_drewN _ _ _) (congrArg (World.drewN _) (Nat.add_assoc _ _ _))⟩)) | (go_at_call 91; (with_reducible refine (impl_isAddress.calls b r2 _ K2.out).mono ?_); rintro e w' ⟨rfl, ⟨nd, rfl⟩⟩; (try first | exact ⟨rfl, _, World.drewN_drewN _ _ _⟩ | exact ⟨rfl, _, Eq.trans (World.drewN_drewN _ _ _) (congrArg (World.drewN _) (Nat.add_assoc _ _ _))⟩)))
    repeat (go_quiet (first | (go_at_call 90; (with_reducible refine (impl_isKind.calls a true _ K1.out).mono ?_); rintro e w' ⟨rfl, ⟨nd, rfl⟩⟩; (try first | exact ⟨rfl, _, World.drewN_drewN _ _ _⟩ | exact ⟨rfl, _, Eq.trans (World.drewN_drewN _ _ _) (congrArg (World.drewN _) (Nat.add_assoc _ _ _))⟩)) | (go_at_call 91; (with_reducible refine (impl_isAddress.calls b r2 _ K2.out).mono ?_); rintro e w' ⟨rfl, ⟨nd, rfl⟩⟩; (try first | exact ⟨rfl, _, World.drewN_drewN _ _ _⟩ | exact ⟨rfl, _, Eq.trans (World.drewN_drewN _ _ _) (congrArg (World.drewN _) (Nat.add_assoc _ _ _))⟩))); try go_wp2)
    go_ret
    exact ⟨by simp, by repeat (first | exact Below.refl _ _ | apply below_alloc | apply pw_below_drewN | apply below_drew1)⟩
  | false =>
    go_enter Tryd.func89, Tryd.ntmps89
    go_wp2_with (first | (go_at_call 90; (with_reducible refine (impl_isKind.calls a false _ K1.out).mono ?_); rintro e w' ⟨rfl, ⟨nd, rfl⟩⟩; (try first | exact ⟨rfl, _, World.drewN_drewN _ _ _⟩ | exact ⟨rfl, _, Eq.trans (World.drewN_drewN _ _ _) (congrArg (World.drewN _) (Nat.add_assoc _ _ _))⟩)))
    repeat (go_quiet (first | (go_at_call 90; (with_reducible refine (impl_isKind.calls a false _ K1.out).mono ?_); rintro e w' ⟨rfl, ⟨nd, rfl⟩⟩; (try first | exact ⟨rfl, _, World.drewN_drewN _ _ _⟩ | exact ⟨rfl, _, Eq.trans (World.drewN_drewN _ _ _) (congrArg (World.drewN _) (Nat.add_assoc _ _ _))⟩))); try go_wp2)
    go_ret
    exact ⟨by simp, by repeat (first | exact Below.refl _ _ | apply below_alloc | apply pw_below_drewN | apply below_drew1)⟩
def impl_ValidTrace.f (l0 : List S45) : Option (Bool) := some (decide (l0.length ≤ 60) && l0.all accOk)
theorem impl_ValidTrace.calls (A0 : Option Addr) (c0 : Nat) (l0 : List S45) (r : Bool) (w : World) (hr0 : Kd.C k45 w A0 l0.length l0) (hc0 : l0.length ≤ c0) (h : impl_ValidTrace.f l0 = some r) :
    Calls Tryd.prog 60 #[.slice A0 l0.length c0] w fun e w' => e = .returned (.bool r) ∧ Below w.heap.size w w' := by
  obtain rfl := Option.some.inj h
  clear h
  have HR := Aside0.mk hr0
  clear hr0
  have eg : ∀ args w, (callFunc 89 args).run Tryd.prog w = .ok (.enter 89 args) w := enters_of Tryd.func89 (by kernel_rfl) rfl
  have e : l0.all accOk = !(l0.any fun x => !accOk x) := by rw [List.all_eq_not_any_not]
  rw [e]
  clear e
  have HC : Aside0 (∀ q, Calls Tryd.prog 88 #[.slice A0 l0.length c0, .func (.func 89) #[] #[]] (w.drewN q) fun e w' => e = .returned (.bool (l0.any fun x => !accOk x)) ∧ Below (w.drewN q).heap.size (w.drewN q) w') :=
    ⟨fun q => ContainsFuncAccess.has (fun x => !accOk x) 89 #[] eg A0 c0 l0 (w.drewN q) (impl_ValidTrace.closure _) (Kd.C_drewN HR.out q)⟩
  clear eg
  generalize (l0.any fun x => !accOk x) = r at HC ⊢
  have HC0 := HC.out 0
  clear HC
  by_cases hl : l0.length ≤ 60
  · have hd : decide ((l0.length : Int) ≤ 60) = true := decide_eq_true (by omega)
    have hd2 : decide (l0.length ≤ 60) = true := decide_eq_true hl
    rw [hd2, Bool.true_and]
    clear hl hd2
    go_enter Tryd.func60, Tryd.ntmps60
    go_wp2_with fail
    refine HC0.mono ?_
    clear HC0
    rintro e w' ⟨rfl, hb⟩
    have HB := Aside0.mk hb
    clear hb
    go_wp2_with fail
    go_ret
    exact ⟨rfl, HB.out⟩
  · have hd : decide ((l0.length : Int) ≤ 60) = false := decide_eq_false (by omega)
    have hd2 : decide (l0.length ≤ 60) = false := decide_eq_false hl
    rw [hd2, Bool.false_and]
    clear hl hd2 HC0
    go_enter Tryd.func60, Tryd.ntmps60
    go_wp2_with fail
    go_ret
    exact ⟨rfl, Below.refl _ _⟩


/-! ### strings_Join: function 85: by hand -/
def strings_Join.f (l0 : List ByteArray) (a1 : ByteArray) : Option ByteArray := if l0.length ≤ 140737488355328 ∧ (Lib.join (l0.map (·.data.toList)) a1.data.toList).length ≤ 140737488355328 then some ⟨(Lib.join (l0.map (·.data.toList)) a1.data.toList).toArray⟩ else none
theorem strings_Join.calls (A0 : Option Addr) (c0 : Nat) (l0 : List ByteArray) (a1 : ByteArray) (r : ByteArray) (w : World) (hr0 : Kd.C Kd.string w A0 l0.length l0) (hc0 : l0.length ≤ c0) (h : strings_Join.f l0 a1 = some r) :
    Calls Tryd.prog 85 #[.slice A0 l0.length c0, .string a1] w fun e w' => e = .returned (.string r) ∧ Below w.heap.size w w' := by
  unfold strings_Join.f at h
  split at h
  case isFalse => cases h
  case isTrue hb =>
  obtain rfl := Option.some.inj h
  exact Door.join_at A0 c0 l0 a1 w hr0 hc0 hb.1 hb.2


end Go.Proofs.YtbfcnacllonnbaaDoor.PFnExactReadTrace
