-- My own: slices.Repeat of one number at []int64.
import Derived.Shelf.Bits.Mul64
import Derived.Shelf.RegionOpenPlain
import Derived.Deep.RegionLaw
import Derived.Lib.SliceRun
import Derived.Ground.NamesProg
import Derived.Lib.Hide
import Derived.Below
import Derived.Deep.Draws
import Derived.Deep.AppendLies
import Derived.Maps.AppendAt
import Derived.OwnWalk
import Derived.Laws.BytesArg
import Derived.Laws.MakeOwn
import Derived.Laws.OwnMore
import Derived.Deep.OwnRows
import Derived.Tactics
import Derived.Lib.ConvBytes
import Derived.Laws.Slices
import Derived.WalkKit
import Derived.KernelRfl
import Derived.RowKit3
import Derived.Deep.LoopGhost
import Derived.Deep.QuietTactic
import Derived.BigQuiet
import Derived.WideLaws
import Derived.Deep.DeepCutAuto
import Derived.Deep.CutBlock
import Derived.Deep.RegionHeld3
import Derived.Laws.Rows
import Derived.Lib.AppendStr
import Derived.ArgAppend
import Derived.Laws.IdiomCopy
import Derived.OrdersHeld
import Derived.Laws.BitsLemmas
import Derived.RowKit
import Derived.Lib.SlBy
import Derived.Lib.Walk
import Derived.Shelf.Abstract
import Derived.Test.YteoacngaicchiaaWWords
import Derived.Test.YteoacngaicchiaaWLast
import Derived.Test.YteoacngaicchiaaWTab
import Derived.Test.YteoacngaicchiaaWFour
import Derived.Test.YteoacngaicchiaaWQPut
import Derived.Test.YteoacngaicchiaaWApart
import Derived.Test.YteoacngaicchiaaWArr
import Derived.Test.YteoacngaicchiaaWZeros
import Derived.Test.YteoacngaicchiaaWFoot
import Derived.Test.YteoacngaicchiaaWKept
import Derived.Test.YteoacngaicchiaaWShare
import Derived.Test.YteoacngaicchiaaWN
import Derived.Test.YteoacngaicchiaaWFootNe
import Derived.Test.YteoacngaicchiaaWAt
import Derived.Test.YteoacngaicchiaaWEqStruct
import Derived.Test.YteoacngaicchiaaWRepsOne
import Derived.Test.YteoacngaicchiaaWInv
import Derived.Test.YteoacngaicchiaaWInvWords
import Derived.Test.YteoacngaicchiaaWGuard
import Derived.Test.YteoacngaicchiaaWNEv
import Derived.Test.YteoacngaicchiaaWMore
import Derived.Test.YteoacngaicchiaaProg
import Derived.Lib.SlKeysI
namespace Go.Proofs.Yteoacngaicchiaa.Rep
open Go.RowKit Go.Shelf Go.Lib Go.Proofs.YteoacngaicchiaaW.PrintWords Go.Proofs.YteoacngaicchiaaW.PrintLast Go.Proofs.YteoacngaicchiaaW.PrintMore
set_option linter.unusedVariables false
set_option linter.unusedSimpArgs false

theorem info2 : (Try.prog.info? 2).map (fun i => (i.zero, i.size, i.bytes)) = some (some (.int .i64 0), 1, 8) := by kernel_rfl
def mulA_ren : Go.Shelf.Ren := ⟨fun | 212 => 111 | 263 => 115 | 264 => 116 | n => n, fun | 46 => 76 | 51 => 106 | 146 => 107 | 53 => 85 | 148 => 109 | n => n, fun | n => n⟩
theorem mulA : Go.Proofs.Lays.n212 Try.prog mulA_ren := {
  mixed := by kernel_rfl
  f212 := Try.func111.trans (congrArg some (by kernel_rfl))
  f263 := Try.func115.trans (congrArg some (by kernel_rfl))
  f264 := Try.func116.trans (congrArg some (by kernel_rfl))
  t46 := Try.underlying76
  a46 := Try.isAgg76
  z46 := Try.sizeOf76
  v46 := Try.zeroValue76
  t51 := Try.underlying106
  a51 := Try.isAgg106
  z51 := Try.sizeOf106
  v51 := Try.zeroValue106
  t53 := Try.underlying85
  a53 := Try.isAgg85
  z53 := Try.sizeOf85
  v53 := Try.zeroValue85
  t146 := Try.underlying107
  a146 := Try.isAgg107
  z146 := Try.sizeOf107
  v146 := Try.zeroValue107
  t148 := Try.underlying109
  a148 := Try.isAgg109
  z148 := Try.sizeOf109
  v148 := Try.zeroValue109 }
theorem mul_at (x y : Nat) (hx : x < 18446744073709551616) (hy : y < 18446744073709551616) (w : World) :
    Calls Try.prog 111 #[.int .u64 x, .int .u64 y] w fun e w' => e = .returned (.tuple #[.int .u64 ((x * y / 18446744073709551616 : Nat) : Int), .int .u64 ((x * y % 18446744073709551616 : Nat) : Int)]) ∧ w = w' :=
  (Any.bits_Mul mulA x y hx hy w).mono fun _ _ h => ⟨h.1, h.2.symm⟩
/-- Cells of a row of numbers are written. -/
theorem copy_R (base g n cap : Nat) (ok : Nat → Prop) (xs vs : List Int) (o : Nat) (w : World) (h : Kd.R (Kd.int .i64) 2 w base ok (.slice (some ⟨g, 0, none⟩) n cap) xs) (hl : o + vs.length ≤ n) :
    Kd.R (Kd.int .i64) 2 (w.setCells g o (vs.map (Value.int .i64))) base ok (.slice (some ⟨g, 0, none⟩) n cap) (xs.take o ++ vs ++ xs.drop (o + vs.length)) ∧ w.grownBy (w.setCells g o (vs.map (Value.int .i64))) (some g) := by
  have hn := (Kd.R_reads' h).1
  subst hn
  have hok := h.1
  obtain ⟨_, hv⟩ := Kd.own_of_R h
  rcases hv with ⟨h0, _⟩ | ⟨g', cap', cur, e1, hb, hg, r1, r2, r3, r4⟩
  · cases h0
  cases e1
  rw [Nat.mul_one] at r4 r3
  have r4' : cur.toList.take xs.length = xs.map (Value.int .i64) := r4
  obtain ⟨c2, s1, s2, s3⟩ := setCells_row (vs.map (Value.int .i64)) o w cur hg (by rw [List.length_map]; omega)
  have g1 := setCells_same g (vs.map (Value.int .i64)) o w
  have hle : (xs.take o ++ vs ++ xs.drop (o + vs.length)).length = xs.length := by simp; omega
  refine ⟨?_, ⟨g1.1, g1.2.1, g1.2.2.1, Nat.le_of_eq g1.2.2.2.symm, fun k hk hne2 => setCells_far _ _ k (fun e => hne2 (by rw [e]))⟩⟩
  have : (w.setCells g o (vs.map (Value.int .i64))).ownsRow base 2 1 (.slice (some ⟨g, 0, none⟩) (xs.take o ++ vs ++ xs.drop (o + vs.length)).length cap) (xs.take o ++ vs ++ xs.drop (o + vs.length)).length ((xs.take o ++ vs ++ xs.drop (o + vs.length)).map (Value.int .i64)) := by
    refine ⟨by simp, .inr ⟨g, cap, c2, rfl, hb, s1, by rw [hle]; exact r1, r2, by rw [Nat.mul_one]; omega, ?_⟩⟩
    rw [hle, Nat.mul_one, s3]
    apply List.ext_getElem?
    intro k
    have hcl : cur.toList.length = cap := by rw [Array.length_toList]; omega
    have hcur : ∀ q, q < xs.length → cur.toList[q]? = (xs.map (Value.int .i64))[q]? := fun q hq => by rw [← r4', List.getElem?_take, if_pos hq]
    have sg := seg_get (xs.map (Value.int .i64)) (vs.map (Value.int .i64)) o (by simp; omega) k
    rw [List.getElem?_take, seg_get _ _ _ (by rw [List.length_map]; omega), List.map_append, List.map_append, List.map_take, List.map_drop]
    rw [List.length_map] at sg
    rw [sg, List.length_map]
    by_cases hk : k < xs.length
    · rw [if_pos hk, hcur k hk]
    · rw [if_neg hk, if_neg (by omega), if_neg (by omega), List.getElem?_eq_none (by simp; omega)]
  rw [← hle]
  exact Kd.R_of_own this (fun k hk => hok k hk)
theorem fill_step (v : Int) (n c : Nat) (hn : n ≤ c) (m : Nat) (hm : n + m ≤ c) : (List.replicate n v ++ List.replicate (c - n) 0).take n ++ List.replicate m v ++ (List.replicate n v ++ List.replicate (c - n) 0).drop (n + m) = List.replicate (n + m) v ++ List.replicate (c - (n + m)) (0 : Int) := by
  rw [List.take_append_of_le_length (by simp), List.take_of_length_le (by simp), List.drop_append, List.drop_eq_nil_of_le (by simp), List.nil_append, List.drop_replicate, List.length_replicate, List.replicate_append_replicate]
  congr 2
  omega
set_option maxHeartbeats 4000000 in
set_option maxRecDepth 100000 in
theorem repeat_at (v : Int) (c : Nat) (h1 : 1 ≤ c) (hc : c ≤ 1000) (A0 : Option Addr) (c0 : Nat) (w : World) (hr : Kd.C (Kd.int .i64) w A0 1 [v]) (hc0 : 1 ≤ c0) :
    Calls Try.prog 105 #[.slice A0 1 c0, .int .i64 c] w fun e w' => ∃ v0_ : Value, e = .returned v0_ ∧ Kd.R (Kd.int .i64) 2 w' w.heap.size (fun _ => True) v0_ (List.replicate c v) ∧ Below w.heap.size w w' := by
  have hm := mul_at 1 c (by omega) (by omega) w
  rw [show 1 * c / 18446744073709551616 = 0 by omega, show 1 * c % 18446744073709551616 = c by omega] at hm
  have hb0 : (0 : Int) ≤ (c : Int) := by omega
  have hb1 : (c : Int) ≤ 1000 := by omega
  have hsz : (Try.prog.info? 2).map (·.size) = some 1 := by
    obtain ⟨i0, hi0, h0, h1, h2⟩ := info_parts info2
    rw [hi0]; simp [h1]
  have HSZ := Aside0.mk hsz
  have HR := Aside0.mk hr
  have HC := Aside0.mk (And.intro h1 hc)
  clear hr h1 hc hsz
  go_enter Try.func105, Try.ntmps105
  go_wp2_with fail
  refine hm.mono ?_
  clear hm
  rintro e w' ⟨rfl, rfl⟩
  go_wp2_with (((with_reducible refine gate_dst (N := 30) rfl ?_); refine Kd.R_make (Kd.int .i64) _ 2 rfl (N := 30) rfl 24 _ _ rfl (c : Int) rfl rfl Try.underlying24 (.int .i64 0) 8 info2 rfl (by decide) (by omega) 0 (ok := fun _ => True) (okp := fun _ => True) rfl (fun _ hk => hk) trivial hb0 (by have := HC.out; omega) (Below.refl _ _) (Nat.le_refl _) ?_; intro v1 w1 ho hb hg hnew; refine Hid.out ?_))
  refine Lib.hid ?_
  rw [Int.toNat_natCast] at ho
  obtain ⟨g, cap, ev, hgb, hgl, -⟩ := Kd.R_form ho (by rw [List.length_replicate]; exact HC.out.1)
  rw [List.length_replicate] at ev
  subst ev
  obtain ⟨ad, e1, hcell⟩ := Kd.at_int (Kd.C_below HR.out hb) 0 (by omega) (by decide)
  subst e1
  have hcell2 : w1.cell? (ad.add 0) = some (.int .i64 v) := hcell
  have hcp : ∀ ty, (Builtin.copy_ #[24, 24] ty #[.slice (some ⟨g, 0, none⟩) c cap, .slice (some ad) 1 c0]).run Try.prog w1 = .ok (goInt [Value.int .i64 v].length) (w1.setCells g 0 [.int .i64 v]) := fun ty =>
    run_copy_cells w1 24 24 ty 2 g 0 c cap ad 1 c0 [.int .i64 v] Try.underlying24 HSZ.out (by have := HC.out; simp only [Nat.min_def, List.length_singleton]; split <;> omega)
      (fun j u hj => by
        cases j with
        | zero => rw [← hj]; exact hcell2
        | succ j => simp at hj)
      (fun j hj => by
        have hj0 : j = 0 := by simpa using hj
        subst hj0
        have := (Kd.R_celln 0 ho 0 (by omega) (by have := HC.out; omega)).1
        rw [show (0 : Nat) + 0 = (0 : Int).toNat from rfl, this]; rfl)
      (fun j hj => by
        have hj0 : j = 0 := by simpa using hj
        subst hj0
        exact (Kd.R_celln 0 ho 0 (by omega) (by have := HC.out; omega)).2)
      (fun u hu => by rw [List.mem_singleton] at hu; rw [hu]; rfl)
  have hcr := copy_R w.heap.size g c cap (fun _ => True) (List.replicate c 0) [v] 0 w1 ho (by have := HC.out; simp; omega)
  have hB2 : Below w.heap.size w (w1.setCells g 0 [.int .i64 v]) := hb.grown hcr.2 hb.size (fun k_ e_ => by cases e_; exact hgb)
  have hfs : List.take 0 (List.replicate c (0 : Int)) ++ [v] ++ List.drop (0 + [v].length) (List.replicate c 0) = List.replicate 1 v ++ List.replicate (c - 1) 0 := by simp
  rw [hfs] at hcr
  have R1 := Aside0.mk hcr.1
  have B1 := Aside0.mk hB2
  have HG := Aside0.mk hgb
  clear ho hb hg hnew hcell hcell2 hcr hB2 hfs hgb hgl
  go_wp2_with (at_builtin; refine wpList_copy_runI _ rfl _ _ 24 24 rfl _ _ rfl rfl (hcp _) ?_)
  clear hcp
  simp only [List.map_cons, List.map_nil] at R1
  go_loopg [8] c (fun kq v8 w' => ∃ n : Nat, v8 = .int .i64 n ∧ Aside0 (1 ≤ n ∧ n ≤ c ∧ c - n ≤ kq) ∧ Aside0 (Kd.R (Kd.int .i64) 2 w' w.heap.size (fun _ => True) (.slice (some ⟨g, 0, none⟩) c cap) (List.replicate n v ++ List.replicate (c - n) 0)) ∧ Aside0 (Below w.heap.size w w'))
  case atStart =>
    exact ⟨1, rfl, ⟨by have := HC.out; omega⟩, R1, B1⟩
  case round =>
    clear R1 B1
    obtain ⟨n, rfl, HN, HR1, HB⟩ := hrel
    by_cases hlt : n < c
    · have c1 : decide (n < c) = true := decide_eq_true hlt
      obtain ⟨m, hm⟩ : ∃ m, m = Nat.min n (c - n) := ⟨_, rfl⟩
      have hm1 : 1 ≤ m ∧ n + m ≤ c := by
        have := HN.out
        rw [hm]; simp only [Nat.min_def]; split <;> omega
      have mixed : Try.prog.follows .mixedOrders = true := by kernel_rfl
      have hcc : c ≤ cap := by have := (Kd.R_reads' HR1.out); omega
      have hd1 := Kd.R_drew HR1.out
      have hcell : ∀ j, j < c → (wr.drew.cell? ⟨g, j, none⟩ = some (.int .i64 ((List.replicate n v ++ List.replicate (c - n) 0).getD j 0)) ∧ wr.drew.frozen? ⟨g, j, none⟩ = false) := fun j hj => by
        have := Kd.R_celln 0 hd1 (j : Int) (by omega) (by omega)
        rw [Int.toNat_natCast] at this
        unfold rdOf at this
        rw [Int.toNat_natCast] at this
        exact this
      have hvl : ((List.replicate m v).map (Value.int .i64)).length = m := by simp
      have hcp : ∀ ty dc sc, (Builtin.copy_ #[24, 24] ty #[.slice (some ⟨g, n, none⟩) (c - n) dc, .slice (some ⟨g, 0, none⟩) n sc]).run Try.prog wr.drew = .ok (goInt ((List.replicate m v).map (Value.int .i64)).length) (wr.drew.setCells g n ((List.replicate m v).map (Value.int .i64))) := fun ty dc sc =>
        run_copy_cells wr.drew 24 24 ty 2 g n (c - n) dc ⟨g, 0, none⟩ n sc _ Try.underlying24 HSZ.out (by rw [hvl, hm])
          (fun j u hj => by
            have hj1 : j < m := by have := (List.getElem?_eq_some_iff.1 hj).1; simpa using this
            have hjn : j < n := by rw [hm] at hj1; exact Nat.lt_of_lt_of_le hj1 (Nat.min_le_left _ _)
            rw [add_plain, (hcell j (by omega)).1, ← hj, List.getElem?_map, List.getElem?_replicate, if_pos hj1, List.getD_eq_getElem?_getD, List.getElem?_append_left (by simpa using hjn), List.getElem?_replicate, if_pos hjn]
            rfl)
          (fun j hj => by rw [(hcell (n + j) (by omega)).1]; rfl) (fun j hj => (hcell (n + j) (by omega)).2)
          (fun u hu => by obtain ⟨y, _, rfl⟩ := List.mem_map.1 hu; rfl)
      have hcr := copy_R w.heap.size g c cap (fun _ => True) _ (List.replicate m v) n wr.drew hd1 (by rw [List.length_replicate]; omega)
      rw [List.length_replicate, fill_step v n c (by omega) m hm1.2] at hcr
      have hB2 := (below_drew1 HB.out).grown hcr.2 HB.out.size (fun k_ e_ => by cases e_; exact HG.out)
      have R1 := Aside0.mk hcr.1
      have B1 := Aside0.mk hB2
      have HM := Aside0.mk hm1
      have hb2 : ¬ (cap = n) := by omega
      have hb3 : (n : Int) ≤ (c : Int) := by omega
      have hb4 : (n : Int) ≤ (cap : Int) := by omega
      have hb5 : n ≤ c := by omega
      have hb6 : n ≤ cap := by omega
      have hw1 : IntKind.i64.wrap ((n : Int) + (m : Int)) = (n : Int) + (m : Int) := by rw [IntKind.wrap_i64]; omega
      rw [hvl] at hcp
      generalize (List.replicate m v).map (Value.int .i64) = vs at hcp R1 B1
      have HLT := Aside0.mk hlt
      clear hm hm1 hcc hd1 hcell hvl hcr hB2 hlt HR1 HB
      try go_wp2
      go_region_law_o (refine step_copy_runI rfl _ _ 24 24 rfl _ _ (by simp [Act.eval, Act.put]) (by simp [Act.eval, Act.put]) (hcp _ _ _) ?_)
      go_wp2
      go_roundg (c - (n + m))
      case measure => have := HN.out; have := HM.out; omega
      case rel =>
        exact ⟨n + m, by first | rfl | (simp; done), ⟨by have := HN.out; have := HM.out; omega⟩, R1, B1⟩
    · have e : n = c := by have := HN.out; omega
      subst e
      have c1 : decide (n < n) = false := decide_eq_false (Nat.lt_irrefl _)
      have h1 := HR1.out
      rw [Nat.sub_self, List.replicate_zero, List.append_nil] at h1
      have R1 := Aside0.mk h1
      clear h1 HR1 hlt
      go_wp2
      go_ret
      exact ⟨_, rfl, R1.out, HB.out⟩
end Go.Proofs.Yteoacngaicchiaa.Rep
