-- My own: impl.policyOf at the dump of seat r3, for closures that make rows.
import Derived.Test.YtigbabolmahlaaaIns
import Derived.Below
import Derived.Deep.Draws
import Derived.Deep.AppendLies
import Derived.Maps.AppendAt
import Derived.OwnWalk
import Derived.Laws.BytesArg
import Derived.Laws.MakeOwn
import Derived.Laws.OwnMore
import Derived.Deep.OwnRows
import Derived.Tactics
import Derived.Lib.ConvBytes
import Derived.Laws.Slices
import Derived.WalkKit
import Derived.KernelRfl
import Derived.RowKit3
import Derived.Deep.LoopGhost
import Derived.Deep.QuietTactic
import Derived.BigQuiet
import Derived.WideLaws
import Derived.Deep.DeepCutAuto
import Derived.Deep.CutBlock
import Derived.Deep.RegionHeld3
import Derived.Laws.Rows
import Derived.Lib.AppendStr
import Derived.ArgAppend
import Derived.Laws.IdiomCopy
import Derived.OrdersHeld
import Derived.Laws.BitsLemmas
import Derived.RowKit
import Derived.Lib.SlBy
import Derived.Lib.Walk
import Derived.Shelf.Abstract
import Derived.Test.YtigbabolmahlaaaWWords
import Derived.Test.YtigbabolmahlaaaWLast
import Derived.Test.YtigbabolmahlaaaWTab
import Derived.Test.YtigbabolmahlaaaWFour
import Derived.Test.YtigbabolmahlaaaWQPut
import Derived.Test.YtigbabolmahlaaaWApart
import Derived.Test.YtigbabolmahlaaaWArr
import Derived.Test.YtigbabolmahlaaaWZeros
import Derived.Test.YtigbabolmahlaaaWFoot
import Derived.Test.YtigbabolmahlaaaWKept
import Derived.Test.YtigbabolmahlaaaWShare
import Derived.Test.YtigbabolmahlaaaWN
import Derived.Test.YtigbabolmahlaaaWFootNe
import Derived.Test.YtigbabolmahlaaaWAt
import Derived.Test.YtigbabolmahlaaaWEqStruct
import Derived.Test.YtigbabolmahlaaaWRepsOne
import Derived.Test.YtigbabolmahlaaaWInv
import Derived.Test.YtigbabolmahlaaaWInvWords
import Derived.Test.YtigbabolmahlaaaWGuard
import Derived.Test.YtigbabolmahlaaaWNEv
import Derived.Test.YtigbabolmahlaaaWMore
namespace Go.Proofs.Ytigbabolmahlaaa.Pol
open Go.RowKit Go.Proofs.YtigbabolmahlaaaW.PrintWords Go.Proofs.YtigbabolmahlaaaW.PrintLast Go.Proofs.YtigbabolmahlaaaW.PrintMore
attribute [local go_sem] max2_int min2_int max_two min_two max_three min_three max_four min_four   -- for this text's walks alone
set_option linter.unusedVariables false
set_option linter.unusedSimpArgs false
theorem S_kept {α : Type} {d : Kd α} {e : Nat} {w w' : World} {base : Nat} {ok P : Nat → Prop} {v : Value} {xs : List α} (h : Kd.S d e w base ok v xs) (hk : Kept w w' P) (hd : ∀ k, ok k → ¬ P k) : Kd.S d e w' base ok v xs :=
  Kd.S_step h (fun k hok hlt => hk.2 k hlt (hd k hok))
theorem R_kept {α : Type} {d : Kd α} {e : Nat} {w w' : World} {base : Nat} {ok P : Nat → Prop} {v : Value} {xs : List α} (h : Kd.R d e w base ok v xs) (hk : Kept w w' P) (hd : ∀ k, ok k → ¬ P k) : Kd.R d e w' base ok v xs :=
  Kd.R_step h (fun k hok hlt => hk.2 k hlt (hd k hok))
theorem C_keptB {α : Type} {d : Kd α} {w w' : World} {A : Option Addr} {n : Nat} {xs : List α} (h : d.C w A n xs) (hb : Below w.heap.size w w') : d.C w' A n xs := Kd.C_below h hb
theorem S_box {α : Type} {d : Kd α} {e : Nat} {w0 w1 : World} {base : Nat} {v : Value} {xs : List α} (h : Kd.S d e w1 w0.heap.size (fun _ => True) v xs) (hb : base ≤ w0.heap.size) : Kd.S d e w1 base (fun k => w0.heap.size ≤ k ∧ k < w1.heap.size) v xs :=
  Kd.S_lower (Kd.S_mono (Kd.S_bound h) (fun _ hk => ⟨hk.2.1, hk.2.2.1⟩)) hb
theorem R_box {α : Type} {d : Kd α} {e : Nat} {w0 w1 : World} {base : Nat} {v : Value} {xs : List α} (h : Kd.R d e w1 w0.heap.size (fun _ => True) v xs) (hb : base ≤ w0.heap.size) : Kd.R d e w1 base (fun k => w0.heap.size ≤ k ∧ k < w1.heap.size) v xs :=
  Kd.R_lower (Kd.R_mono (Kd.R_bound h) (fun _ hk => ⟨hk.2.1, hk.2.2.1⟩)) hb

theorem info23' : (Try.prog.info? 23).map (fun i => (i.zero, i.size, i.bytes)) = some (some (.slice none 0 0), 1, 24) := by kernel_rfl
def polT : Bool × List (List Nat × List Nat) := (true, [([], []), ([0], [0]), ([], []), ([], []), ([2, 3], [2, 3]), ([4], [4]), ([1, 5, 4], [1, 5]), ([0, 1, 2, 3, 4, 5, 6], []), ([7, 6, 6, 0, 1, 2, 3, 4, 5, 6], [6, 7])])
def polB : List Nat := [0, 1, 0, 0, 12, 28, 63, 127, 255]
theorem pol_tab : rtab .any (opsOf Try.f40 7) = polT := by kernel_rfl
theorem pol_bits : waitsOk polT.2 polB = true := by kernel_rfl
set_option maxHeartbeats 8000000 in
set_option maxRecDepth 100000 in
theorem policyOf_at (n : Nat) (hn : n ≤ 1000) (g1 g2 : Nat) (lb1 lb2 : Array Value) (eg1 : ∀ args w, (callFunc g1 args).run Try.prog w = .ok (.enter g1 args) w) (eg2 : ∀ args w, (callFunc g2 args).run Try.prog w = .ok (.enter g2 args) w)
    (w0 w : World) (hB : Below w0.heap.size w0 w) (P : Nat → Prop) (hP : ∀ k, P k → k < w.heap.size) (I : Nat → World → Prop) (rows : Nat → List Int) (last : List Int)
    (hI : ∀ i W W', I i W → Kept W W' (fun k => w.heap.size ≤ k) → w.heap.size ≤ W.heap.size → I i W')
    (hit : ∀ i W, i < n → I i W → Below w0.heap.size w0 W → w.heap.size ≤ W.heap.size → Calls Try.prog g1 (#[.int .i64 i] ++ lb1) W fun e w' => ∃ v, e = .returned v ∧ Kd.R (Kd.int .i64) 2 w' W.heap.size (fun _ => True) v (rows i) ∧ I (i + 1) w' ∧ Below w0.heap.size w0 w' ∧ Kept W w' P)
    (miss : ∀ W, I n W → Below w0.heap.size w0 W → w.heap.size ≤ W.heap.size → Calls Try.prog g2 lb2 W fun e w' => ∃ v, e = .returned v ∧ Kd.R (Kd.int .i64) 2 w' W.heap.size (fun _ => True) v last ∧ I (n + 1) w' ∧ Below w0.heap.size w0 w' ∧ Kept W w' P)
    (h0 : I 0 w) (hW : ∀ W, Calls Try.prog 69 #[.int .i64 n] W fun e w' => e = .returned (.bool true) ∧ Drawn0 W w') :
    Calls Try.prog 40 #[.int .i64 n, .func (.func g1) #[] lb1, .func (.func g2) #[] lb2] w fun e w' => ∃ v0_ v1_ : Value, e = .returned (.tuple #[.agg #[v0_, v1_], .bool true]) ∧
      Kd.S (Kd.slice 2 (Kd.int .i64)) 23 w' w0.heap.size (fun k_ => w.heap.size ≤ k_ ∧ some k_ ≠ (v1_ : Value).ownBlock) v0_ ((List.range n).map rows) ∧ Kd.R (Kd.int .i64) 2 w' w0.heap.size (fun k_ => w.heap.size ≤ k_) v1_ last ∧ I (n + 1) w' ∧ Below w0.heap.size w0 w' ∧ Kept w w' P := by
  have hu25 := Try.underlying25
  have HN := Aside0.mk hn
  have hn1 : (n : Int) ≤ 1000 := by omega
  have HB := Aside0.mk hB
  have HB0 := Aside0.mk hB.size
  have HP := Aside0.mk hP
  have HI := Aside0.mk hI
  have HT := Aside0.mk hit
  have HM := Aside0.mk miss
  have H0 := Aside0.mk h0
  have EG1 := Aside0.mk eg1
  have EG2 := Aside0.mk eg2
  have HWq := Aside0.mk hW
  clear hn hB hP hI hit miss h0 eg1 eg2 hW
  go_enter Try.func40, Try.ntmps40
  go_wp2_with fail
  refine (HWq.out _).mono ?_
  rintro e w1 ⟨rfl, hd⟩
  have b1 := Drawn0.below hd
  have BKr := Aside0.mk (blk_below (g := w.heap.size) (o := .cells #[.slice none 0 0, .slice none 0 0] 25 (0, 0)) (w := w.alloc (.cells #[.slice none 0 0, .slice none 0 0] 25)) (by show (w.heap.push _)[w.heap.size]? = _; exact Array.getElem?_push_size) b1)
  have L1 := Aside0.mk (show w.heap.size < w1.heap.size from Nat.lt_of_lt_of_le (by simp) b1.size)
  have K1 := Aside0.mk (Kept.below (Kept.alloc (Kept.refl w (fun _ => False)) (.cells #[.slice none 0 0, .slice none 0 0] 25)) b1)
  have B1 := Aside0.mk (below_step (below_alloc HB.out (.cells #[.slice none 0 0, .slice none 0 0] 25)) b1)
  clear hd b1
  go_wp2_with fail
  go_loopg [16] n (fun kq v16 w' => ∃ (i : Nat) (u : Value), v16 = .int .i64 i ∧ Aside0 (i ≤ n) ∧ Aside0 (n - i ≤ kq) ∧ Aside0 (Kd.S (Kd.slice 2 (Kd.int .i64)) 23 w' w0.heap.size (fun k_ => w.heap.size ≤ k_) u ((List.range i).map rows)) ∧ Aside0 (w'.heap[w.heap.size]? = some (.cells #[.slice none 0 0, .slice none 0 0] 25 (0, 0))) ∧ Aside0 (w'.heap[w1.heap.size]? = some (.cells #[u, .slice none 0 0] 25 (0, 0))) ∧ Aside0 (Below w0.heap.size w0 w') ∧ Aside0 (Kept w w' P) ∧ Aside0 (I i w') ∧ Aside0 (w1.heap.size < w'.heap.size))
  case atStart =>
    refine ⟨0, .slice none 0 0, rfl, ⟨Nat.zero_le _⟩, ⟨Nat.le_refl _⟩, ⟨Kd.S_nil _ _ _ _ _⟩, ⟨?_⟩, ⟨?_⟩, ⟨?_⟩, ⟨?_⟩, ⟨?_⟩, ⟨?_⟩⟩
    · exact blk_alloc BKr.out _
    · show (w1.heap.push _)[w1.heap.size]? = _
      exact Array.getElem?_push_size
    · exact below_alloc B1.out _
    · exact Kept.mono (Kept.alloc K1.out _) (fun _ h => h.elim)
    · exact HI.out 0 w _ H0.out (Kept.mono (Kept.alloc K1.out _) (fun _ h => h.elim)) (Nat.le_refl _)
    · show w1.heap.size < (w1.heap.push _).size
      rw [Array.size_push]; omega
  case round =>
    clear BKr K1 B1 H0
    obtain ⟨i, u, rfl, Hi, Hk, HS, BKr, BKp, HB, HK, HJ, HL⟩ := hrel
    by_cases hlt : i < n
    · have c1 : decide (i < n) = true := decide_eq_true hlt
      have HLT := Aside0.mk hlt
      have hi1 : (i : Int) ≤ 1000 := by omega
      clear hlt
      try go_wp2
      have n0_ := Aside0.mk (Kd.S_drew HS.out)
      have n2_ := Aside0.mk (blk_drew BKr.out)
      have n3_ := Aside0.mk (blk_drew BKp.out)
      have n4_ := Aside0.mk (below_drew1 HB.out)
      have n5_ := Aside0.mk (Kept.drew HK.out)
      have n6_ := Aside0.mk (HI.out i wr wr.drew HJ.out (Kept.refl _ _) (by have := HL.out; have := L1.out; omega))
      have n7_ := Aside0.mk (show w1.heap.size < wr.drew.heap.size from HL.out)
      clear HS BKr BKp HB HK HJ HL
      have HS := n0_
      have BKr := n2_
      have BKp := n3_
      have HB := n4_
      have HK := n5_
      have HJ := n6_
      have HL := n7_
      clear n0_ n2_ n3_ n4_ n5_ n6_ n7_
      refine start_ (n := 9) (S := fun w' => w'.cell? ⟨w1.heap.size, 0, none⟩ = some u ∧ w'.cell? ⟨w1.heap.size, 1, none⟩ = some (.slice none 0 0)) (ds := [8]) #[false, false, false, false, false, false, false, false, false] (by kernel_rfl) rfl rfl ⟨(blk_cell BKp.out 0).trans rfl, (blk_cell BKp.out 1).trans rfl⟩ (fun hHeld => ?_); refine with_tabW pol_tab pol_bits (fun HT_ HW_ => ?_)
      generalize wr.drew = w12 at HS BKr BKp HB HK HJ HL hHeld ⊢
      refine pure_ (i := 0) (N := some 19) (v := ?_) (a' := ?_) #[true, false, false, false, false, false, false, false, false] rfl rfl (any_of HT_.out (by kernel_rfl)) (fun _ _ _ h => h) (Or.inl ⟨by rfl, ?_⟩) ?_ ?_
      rotate_left
      · intro w'
        go_simp
        with_reducible rfl
      rotate_left
      · simp only [Act.put, List.setIfInBounds_toArray, List.set_cons_zero, List.set_cons_succ, i64_w, i32_w]
        rfl
      refine pure_ (i := 2) (N := some 21) (v := ?_) (a' := ?_) #[true, false, true, false, false, false, false, false, false] rfl rfl (any_of HT_.out (by kernel_rfl)) (fun _ _ _ h => h) (Or.inl ⟨by rfl, ?_⟩) ?_ ?_
      rotate_left
      · intro w'
        go_simp
        with_reducible rfl
      rotate_left
      · simp only [Act.put, List.setIfInBounds_toArray, List.set_cons_zero, List.set_cons_succ, i64_w, i32_w]
        rfl
      refine pure_ (i := 3) (N := some 22) (v := ?_) (a' := ?_) #[true, false, true, true, false, false, false, false, false] rfl rfl (any_of HT_.out (by kernel_rfl)) (fun _ _ _ h => h) (Or.inl ⟨by rfl, ?_⟩) ?_ ?_
      rotate_left
      · intro w'
        go_simp
        with_reducible rfl
      rotate_left
      · simp only [Act.put, List.setIfInBounds_toArray, List.set_cons_zero, List.set_cons_succ, i64_w, i32_w]
        rfl
      refine take_ (i := 1) (N := some 20) (v := ?_) (a' := ?_) #[true, true, true, true, false, false, false, false, false] rfl rfl (take_ofW HT_.out HW_.out (by kernel_rfl)) (fun _ _ _ h => h) (Or.inl ⟨by rfl, ?_⟩) hHeld ?_ ?_
      rotate_left
      · rintro w' ⟨s0, s1⟩
        go_simp
        with_reducible rfl
      rotate_left
      · simp only [Act.put, List.setIfInBounds_toArray, List.set_cons_zero, List.set_cons_succ, i64_w, i32_w]
        rfl
      refine one_ (i := 4) (N := some 23) #[true, true, true, true, true, false, false, false, false] rfl rfl (one_of HT_.out (by kernel_rfl)) (by decide) (fun K hK => ?_)
      refine call_ g1 (#[.int .i64 i] ++ lb1) (by rfl) rfl ?hrun ?_
      case hrun =>
        have he := EG1.out (#[.int .i64 i] ++ lb1) w12
        simp [execOp, resolve, Deferred.ofValue, invoke, Act.eval, Act.put, he]
      refine (HT.out i w12 HLT.out HJ.out HB.out (by have := HL.out; have := L1.out; omega)).mono ?_
      rintro e w13 ⟨v, rfl, hv, hj, hb, hk⟩
      refine ⟨_, rfl, ?_⟩
      have hv0 := Kd.R_lower (Kd.R_mono (Kd.R_bound hv) (fun k_ h_ => (show w12.heap.size ≤ k_ from h_.2.1))) HB.out.size
      have sb := Kd.S_bound HS.out
      have n0_ := Aside0.mk (S_kept (Kd.S_mono sb (fun k_ h_ => (show w.heap.size ≤ k_ ∧ k_ < w12.heap.size from ⟨h_.1, h_.2.2.1⟩))) hk (fun k_ h1 h2 => by have := HP.out k_ h2; omega))
      have n1_ := Aside0.mk hv0
      have n2_ := Aside0.mk (blk_kept BKr.out hk (fun h_ => Nat.lt_irrefl _ (HP.out _ h_)))
      have n3_ := Aside0.mk (blk_kept BKp.out hk (fun h_ => by have := HP.out _ h_; have := L1.out; omega))
      have n4_ := Aside0.mk hb
      have n5_ := Aside0.mk (HK.out.then_ hk (fun k_ h_ => .inl h_))
      have n6_ := Aside0.mk hj
      have n7_ := Aside0.mk (show w1.heap.size < w12.heap.size ∧ w12.heap.size ≤ w13.heap.size from ⟨HL.out, hk.1⟩)
      clear HS BKr BKp HB HK HJ HL hv hv0 sb hj hb hk hHeld
      have HS := n0_
      have HV := n1_
      have BKr := n2_
      have BKp := n3_
      have HB := n4_
      have HK := n5_
      have HJ := n6_
      have HL := n7_
      clear n0_ n1_ n2_ n3_ n4_ n5_ n6_ n7_
      obtain ⟨Ao15, co15, eo15⟩ := Kd.R_slice HV.out
      subst eo15
      refine hK.out _ _ ⟨(blk_cell BKp.out 0).trans rfl, (blk_cell BKp.out 1).trans rfl⟩ (fun hHeld => ?_)
      clear hK K
      refine norm_ (a' := ?_) ?_ ?_
      rotate_left
      · show Act.put _ (some 23) _ = _
        simp only [Act.put, List.setIfInBounds_toArray, List.set_cons_zero, List.set_cons_succ, i64_w, i32_w]
        rfl
      refine one_ (i := 5) (N := some 24) #[true, true, true, true, true, true, false, false, false] rfl rfl (one_of HT_.out (by kernel_rfl)) (by decide) (fun K hK => ?_)
      refine value_ (w1 := ?_) (v := ?_) (by rfl) rfl ?_ ?_
      rotate_left 2
      · go_simp
        constructor
        · rfl
        · rfl
      refine hK.out _ _ ⟨(blk_cell (blk_alloc BKp.out _) 0).trans rfl, (blk_cell (blk_alloc BKp.out _) 1).trans rfl⟩ (fun hHeld => ?_)
      clear hK K
      refine norm_ (a' := ?_) ?_ ?_
      rotate_left
      · show Act.put _ (some 24) _ = _
        simp only [Act.put, List.setIfInBounds_toArray, List.set_cons_zero, List.set_cons_succ, i64_w, i32_w]
        rfl
      refine one_ (i := 6) (N := some 25) #[true, true, true, true, true, true, true, false, false] rfl rfl (one_of HT_.out (by kernel_rfl)) (by decide) (fun K hK => ?_)
      refine Kd.S_append_step (Kd.slice 2 (Kd.int .i64)) (w0 := w0) w0.heap.size (by rfl) (.tmp 20) (.tmp 24) 22 23 (.slice none 0 0) 24 rfl Try.underlying22 info23' rfl (by decide) (by omega) u ((List.range i).map rows) (rows i) [.slice Ao15 (rows i).length co15] (fun k_ => w.heap.size ≤ k_) (fun k_ => w12.heap.size ≤ k_) rfl rfl ?aP ?aK ?aF ?aO ?aB ?aS ?aL ?_
      (case aP => exact Kd.M_row HV.out)
      (case aK => exact fun k_ h_ => ⟨by have := HL.out; have := L1.out; omega, fun e_ => by have := (HS.out |> Kd.S_R).1 k_ e_.symm; omega⟩)
      (case aF => exact fun k_ h_ => by have := HL.out; have := L1.out; omega)
      (case aO => exact Kd.S_mono HS.out (fun k_ h_ => ⟨h_.1, by omega⟩))
      (case aB => exact HB.out)
      (case aS => exact HB.out.size)
      (case aL => have := HN.out; have := HLT.out; rw [List.length_map, List.length_range]; omega)
      intro v134 w14 ho hb hg hat
      have hu : ∀ k_, u.ownBlock = some k_ → w.heap.size ≤ k_ := fun k_ e_ => ((HS.out |> Kd.S_R).1 k_ e_).1
      have n0_ := Aside0.mk (blk_grown BKr.out hg (Kd.S_ne HS.out BKr.out (by decide)))
      have n1_ := Aside0.mk (blk_grown BKp.out hg (Kd.S_ne HS.out BKp.out (by decide)))
      have n2_ := Aside0.mk hb
      have n3_ := Aside0.mk (Kept.of_grown hg HK.out (fun k_ e_ => .inr (hu k_ e_)))
      have n4_ := Aside0.mk (HI.out (i + 1) w13 w14 HJ.out ⟨hg.size, fun k_ hk_ hn_ => hg.block k_ hk_ (fun e_ => hn_ (hu k_ e_.symm))⟩ (by have := HL.out; have := L1.out; omega))
      have n5_ := Aside0.mk (show w1.heap.size < w14.heap.size by have := HL.out; have := hg.size; omega)
      have n6_ := Aside0.mk ho
      clear BKr BKp HB HK HJ HL HS HV hu ho hb hg hat hHeld
      have BKr := n0_
      have BKp := n1_
      have HB := n2_
      have HK := n3_
      have HJ := n4_
      have HL := n5_
      have HS := n6_
      clear n0_ n1_ n2_ n3_ n4_ n5_ n6_
      obtain ⟨Ao16, co16, eo16⟩ := Kd.S_slice HS.out
      rw [show ((List.range i).map rows ++ [rows i]).length = i + 1 by simp] at eo16
      subst eo16
      refine hK.out _ _ ⟨(blk_cell BKp.out 0).trans rfl, (blk_cell BKp.out 1).trans rfl⟩ (fun hHeld => ?_)
      clear hK K
      refine norm_ (a' := ?_) ?_ ?_
      rotate_left
      · show Act.put _ (some 25) _ = _
        simp only [Act.put, List.setIfInBounds_toArray, List.set_cons_zero, List.set_cons_succ, i64_w, i32_w]
        rfl
      refine pure_ (i := 7) (N := some 26) (v := ?_) (a' := ?_) #[true, true, true, true, true, true, true, true, false] rfl rfl (any_of HT_.out (by kernel_rfl)) (fun _ _ _ h => h) (Or.inl ⟨by rfl, ?_⟩) ?_ ?_
      rotate_left
      · intro w'
        go_simp
        with_reducible rfl
      rotate_left
      · simp only [Act.put, List.setIfInBounds_toArray, List.set_cons_zero, List.set_cons_succ, i64_w, i32_w]
        rfl
      refine last_ (i := 8) (N := none) #[true, true, true, true, true, true, true, true, true] rfl rfl (one_of HT_.out (by kernel_rfl)) (by decide) (fun K hK => ?_)
      have hs17 : w14.cell? ⟨w1.heap.size, 0, none⟩ = some u := (blk_cell BKp.out 0).trans rfl
      have hfs17 := blk_frozen BKp.out 0
      have hns17_0 : w.heap.size ≠ w1.heap.size := by have := L1.out; omega
      have hms17_0 : w1.heap.size ≠ w.heap.size := by have := L1.out; omega
      refine skip_ (w1 := ?_) (by rfl) rfl ?_ ?_
      rotate_left
      · go_simp
        rfl
      refine hK.out _ _ ?_
      clear hK K
      refine done_ (done_of HT_.out (by kernel_rfl)) ?_
      try go_wp2
      go_roundg (n - (i + 1))
      case measure => have := Hk.out; have := HLT.out; omega
      case rel =>
        have em : (List.range (i + 1)).map rows = (List.range i).map rows ++ [rows i] := by rw [List.range_succ, List.map_append]; rfl
        refine ⟨i + 1, .slice Ao16 (i + 1) co16, by first | rfl | (simp; done), ⟨HLT.out⟩, ⟨Nat.le_refl _⟩, ⟨?_⟩, ⟨?_⟩, ⟨?_⟩, ⟨?_⟩, ⟨?_⟩, ⟨?_⟩, ⟨?_⟩⟩
        · rw [em]
          exact Kd.S_mono (Kd.S_far (p := ⟨w1.heap.size, 0, none⟩) (Kd.S_types HS.out BKp.out (by decide)) (fun _ hk => hk.2) _) (fun _ hk => hk.1)
        · exact blk_far BKr.out hns17_0 _
        · exact blk_put (cs := #[u, .slice none 0 0]) BKp.out 0 _ rfl
        · exact HB.out.setCell (p := ⟨w1.heap.size, 0, none⟩) (Nat.le_trans HB0.out (Nat.le_of_lt L1.out)) _
        · exact Kept.setCell HK.out (p := ⟨w1.heap.size, 0, none⟩) (.inr (Nat.le_of_lt L1.out)) _
        · exact HI.out (i + 1) w14 _ HJ.out (Kept.setCell (Kept.refl _ _) (p := ⟨w1.heap.size, 0, none⟩) (.inl (Nat.le_of_lt L1.out)) _) (by have := HL.out; have := L1.out; omega)
        · show w1.heap.size < (World.setCell _ _ _).heap.size
          have := HL.out
          simp only [World.setCell] at *
          simpa using this
    · have hin : i = n := by have := Hi.out; omega
      subst hin
      have c1 : decide (i < i) = false := decide_eq_false (Nat.lt_irrefl _)
      have hlen : ((List.range i).map rows).length = i := by simp
      obtain ⟨Ao1, co1, eo1⟩ := Kd.S_slice HS.out
      rw [hlen] at eo1
      subst eo1
      clear hlen hlt
      have hcall := HM.out wr HJ.out HB.out (by have := HL.out; have := L1.out; omega)
      have eg2 := EG2.out
      go_wp2_with fail
      refine hcall.mono ?_
      clear hcall eg2
      rintro e w13 ⟨v, rfl, hv, hj, hb, hk⟩
      have hv0 := Kd.R_lower (Kd.R_mono (Kd.R_bound hv) (fun k_ h_ => (show wr.heap.size ≤ k_ from h_.2.1))) HB.out.size
      have sb := Kd.S_bound HS.out
      have n0_ := Aside0.mk (S_kept (Kd.S_mono sb (fun k_ h_ => (show w.heap.size ≤ k_ ∧ k_ < wr.heap.size from ⟨h_.1, h_.2.2.1⟩))) hk (fun k_ h1 h2 => by have := HP.out k_ h2; omega))
      have n1_ := Aside0.mk hv0
      have n2_ := Aside0.mk (blk_kept BKr.out hk (fun h_ => Nat.lt_irrefl _ (HP.out _ h_)))
      have n3_ := Aside0.mk (blk_kept BKp.out hk (fun h_ => by have := HP.out _ h_; have := L1.out; omega))
      have n4_ := Aside0.mk hb
      have n5_ := Aside0.mk (HK.out.then_ hk (fun k_ h_ => .inl h_))
      have n6_ := Aside0.mk hj
      have n7_ := Aside0.mk (show w1.heap.size < wr.heap.size ∧ wr.heap.size ≤ w13.heap.size from ⟨HL.out, hk.1⟩)
      clear HS BKr BKp HB HK HJ HL hv hv0 sb hj hb hk
      have HS := n0_
      have HV := n1_
      have BKr := n2_
      have BKp := n3_
      have HB := n4_
      have HK := n5_
      have HJ := n6_
      have HL := n7_
      clear n0_ n1_ n2_ n3_ n4_ n5_ n6_ n7_
      obtain ⟨Ao2, co2, eo2⟩ := Kd.R_slice HV.out
      subst eo2
      generalize hll : last.length = ll
      have HLL := Aside0.mk hll
      clear hll
      have hp0 : w13.cell? ⟨w1.heap.size, 0, none⟩ = some (.slice Ao1 i co1) := (blk_cell BKp.out 0).trans rfl
      have hp1 : w13.cell? ⟨w1.heap.size, 1, none⟩ = some (.slice none 0 0) := (blk_cell BKp.out 1).trans rfl
      have hr0 : w13.cell? ⟨w.heap.size, 0, none⟩ = some (.slice none 0 0) := (blk_cell BKr.out 0).trans rfl
      have hr1 : w13.cell? ⟨w.heap.size, 1, none⟩ = some (.slice none 0 0) := (blk_cell BKr.out 1).trans rfl
      have fp0 := blk_frozen BKp.out 0
      have fp1 := blk_frozen BKp.out 1
      have fr0 := blk_frozen BKr.out 0
      have fr1 := blk_frozen BKr.out 1
      have ne1 : w.heap.size ≠ w1.heap.size := by have := L1.out; omega
      have ne2 : w1.heap.size ≠ w.heap.size := by have := L1.out; omega
      go_wp2
      clear hp0 hp1 hr0 hr1 fp0 fp1 fr0 fr1
      have b1 := blk_far BKr.out ne1 (p := ⟨w1.heap.size, 1, none⟩) (.slice Ao2 ll co2)
      have b2 := blk_put (cs := #[.slice none 0 0, .slice none 0 0]) b1 0 (.slice Ao1 i co1) rfl
      have b3 := blk_put (cs := #[.slice Ao1 i co1, .slice none 0 0]) b2 1 (.slice Ao2 ll co2) rfl
      have s1 := Kd.S_far (p := ⟨w1.heap.size, 1, none⟩) (Kd.S_types HS.out BKp.out (by decide)) (fun _ hk => hk.2) (.slice Ao2 ll co2)
      have s2 := Kd.S_far (p := ⟨w.heap.size, 0, none⟩) (Kd.S_types s1 b1 (by decide)) (fun _ hk => hk.2) (.slice Ao1 i co1)
      have s3 := Kd.S_far (p := ⟨w.heap.size, 1, none⟩) s2 (fun _ hk => hk.2) (.slice Ao2 ll co2)
      have r1 := Kd.R_far (p := ⟨w1.heap.size, 1, none⟩) (Kd.R_types HV.out BKp.out (by decide)) (fun _ hk => hk.2) (.slice Ao2 ll co2)
      have r2 := Kd.R_far (p := ⟨w.heap.size, 0, none⟩) (Kd.R_types r1 b1 (by decide)) (fun _ hk => hk.2) (.slice Ao1 i co1)
      have r3 := Kd.R_far (p := ⟨w.heap.size, 1, none⟩) r2 (fun _ hk => hk.2) (.slice Ao2 ll co2)
      have hvo := HV.out.1
      rw [HLL.out] at r3 hvo
      have k3 := Kept.setCell (Kept.setCell (Kept.setCell HK.out (p := ⟨w1.heap.size, 1, none⟩) (.inr (Nat.le_of_lt L1.out)) (.slice Ao2 ll co2)) (p := ⟨w.heap.size, 0, none⟩) (.inr (Nat.le_refl _)) (.slice Ao1 i co1)) (p := ⟨w.heap.size, 1, none⟩) (.inr (Nat.le_refl _)) (.slice Ao2 ll co2)
      have q3 := ((HB.out.setCell (p := ⟨w1.heap.size, 1, none⟩) (Nat.le_trans HB0.out (Nat.le_of_lt L1.out)) (.slice Ao2 ll co2)).setCell (p := ⟨w.heap.size, 0, none⟩) HB0.out (.slice Ao1 i co1)).setCell (p := ⟨w.heap.size, 1, none⟩) HB0.out (.slice Ao2 ll co2)
      have j3 := HI.out (i + 1) w13 _ HJ.out (Kept.setCell (Kept.setCell (Kept.setCell (Kept.refl w13 (fun k_ => w.heap.size ≤ k_)) (p := ⟨w1.heap.size, 1, none⟩) (.inl (Nat.le_of_lt L1.out)) (.slice Ao2 ll co2)) (p := ⟨w.heap.size, 0, none⟩) (.inl (Nat.le_refl _)) (.slice Ao1 i co1)) (p := ⟨w.heap.size, 1, none⟩) (.inl (Nat.le_refl _)) (.slice Ao2 ll co2)) (by have := HL.out; have := L1.out; omega)
      refine bodyPost_ret (results_ct rfl _ _ w.heap.size 25 #[.slice Ao1 i co1, .slice Ao2 ll co2] (0, 0) _ rfl b3 Try.underlying25 rfl (by kernel_rfl)) rfl ?_
      refine ⟨_, _, rfl, Kd.S_mono s3 (fun k_ h_ => ⟨h_.1.1.1, fun e_ => ?_⟩), Kd.R_mono r3 (fun k_ h_ => by have := h_.1.1; have := HL.out; have := L1.out; omega), j3, q3, k3⟩
      have h1 := hvo k_ e_.symm
      have h2 := h_.1.1.2
      omega
end Go.Proofs.Ytigbabolmahlaaa.Pol
