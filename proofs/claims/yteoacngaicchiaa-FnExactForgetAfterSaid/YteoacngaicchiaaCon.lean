-- My own: slices.Clone and slices.DeleteFunc at []int64 at the dump of seat r4, for impl.ValidContents.
import Derived.Test.YteoacngaicchiaaSet
import Derived.Shelf.SlicesE.DeleteFunc
import Derived.Ground.SlgfProg
namespace Go.Proofs.Yteoacngaicchiaa.Con
open Go.RowKit Go.Shelf Go.Sort Go.Lib Go.Proofs.YteoacngaicchiaaW.PrintWords Go.Proofs.YteoacngaicchiaaW.PrintLast Go.Proofs.YteoacngaicchiaaW.PrintMore Go.Proofs.Yteoacngaicchiaa.SetOf
set_option linter.unusedVariables false
set_option linter.unusedSimpArgs false

def delA_ren : Go.Shelf.Ren := ⟨fun | 10 => 79 | 6 => 104 | n => n, fun | 22 => 24 | 23 => 2 | 25 => 66 | 3 => 3 | 4 => 4 | 0 => 0 | n => n, fun | n => n⟩
theorem delA : Go.Proofs.SlLaysH.n10 Try.prog delA_ren := {
  mixed := by kernel_rfl
  f6 := ⟨Try.f104.name, by decide, Try.func104.trans (congrArg some (by kernel_rfl))⟩
  f10 := ⟨Try.f79.name, by decide, Try.func79.trans (congrArg some (by kernel_rfl))⟩
  t0 := Try.underlying0
  a0 := Try.isAgg0
  z0 := Try.sizeOf0
  v0 := Try.zeroValue0
  t3 := Try.underlying3
  a3 := Try.isAgg3
  z3 := Try.sizeOf3
  v3 := Try.zeroValue3
  t4 := Try.underlying4
  a4 := Try.isAgg4
  z4 := Try.sizeOf4
  v4 := Try.zeroValue4
  t22 := Try.underlying24
  a22 := Try.isAgg24
  z22 := Try.sizeOf24
  v22 := Try.zeroValue24
  a23 := Try.isAgg2
  z23 := Try.sizeOf2
  t25 := Try.underlying66
  a25 := Try.isAgg66
  z25 := Try.sizeOf66
  v25 := Try.zeroValue66 }
theorem info2 : (Try.prog.info? 2).map (fun i => (i.zero, i.size, i.bytes)) = some (some (.int .i64 0), 1, 8) := by kernel_rfl

set_option maxHeartbeats 2000000 in
set_option maxRecDepth 100000 in
/-- slices.Clone of a row that is not empty. -/
theorem clone_at (A0 : Option Addr) (c0 : Nat) (l0 : List Int) (w : World) (hr : Kd.C (Kd.int .i64) w A0 l0.length l0) (h1 : 1 ≤ l0.length) (hl : l0.length ≤ 1048576) :
    Calls Try.prog 80 #[.slice A0 l0.length c0] w fun e w' => ∃ v, e = .returned v ∧ w'.ownsRow w.heap.size 2 1 v l0.length (l0.map (Value.int .i64)) ∧ Below w.heap.size w w' := by
  obtain ⟨i0, hi, hz0, hz1, hz2⟩ := info_parts info2
  obtain ⟨ad, rfl, _⟩ := Kd.at_int hr 0 (by omega) (by omega)
  have hcell : ∀ j : Nat, j < l0.length → w.cell? (ad.add j) = some (.int .i64 (l0.getD j 0)) := fun j hj => by
    obtain ⟨ad', e, h⟩ := Kd.at_int hr (j : Int) (by omega) (by omega)
    cases e
    exact h
  have q24 : ∀ (w : World) (a : Option Addr) (n c n' c' : Nat), (binOp .eql 24 (.slice a n c) (.slice none n' c')).run Try.prog w = .ok (.bool a.isNone) w := fun w a n c n' c' => Lib.run_eql_slice_nil w _ _ a n c n' c' Try.underlying24
  have A := Aside0.mk hcell
  clear hcell hr
  go_enter Try.func80, Try.ntmps80
  go_wp2_with (at_builtin; refine wpList_append_own _ rfl _ _ 24 rfl w.heap.size 2 i0 (.int .i64 0) 1 8 Try.underlying24 hi hz0 hz1 hz2 rfl (by decide) _ _ _ rfl (World.ownsRow_made w #[] 0 (Nat.le_refl _) (Nat.zero_le _) rfl) ad l0.length c0 (l0.map (Value.int .i64)) rfl ?qc1 ?qc2 ?qc3 ?qc4 ?qc5 ?qc6 ?_)
  case qc1 => simp
  case qc2 =>
    intro j u hj
    have hjn : j < l0.length := by
      have := (List.getElem?_eq_some_iff.1 hj).1
      simpa using this
    refine Lib.cell?_alloc_some _ ?_
    rw [A.out j hjn]
    have e : (l0.map (Value.int .i64))[j]? = some (Value.int .i64 (l0.getD j 0)) := by simp [List.getD, List.getElem?_eq_getElem hjn]
    rw [e] at hj
    exact hj
  case qc3 => intro u hu; obtain ⟨x, _, rfl⟩ := List.mem_map.1 hu; rfl
  case qc4 => unfold maxLen; omega
  case qc5 => omega
  case qc6 => simp
  intro v' w1 hown hgrow hnil
  go_wp2
  go_ret
  refine ⟨v', rfl, by simpa using hown, ?_⟩
  exact ((Below.refl _ w).alloc (Nat.le_refl _) _).grown hgrow (by simp) (by intro k hk; simp [Value.ownBlock] at hk; omega)

theorem gives81 (x : Int) (W : World) : FnGives Try.prog 81 #[] #[.int .i64 x] (.bool (decide (x < 0))) W := by
  show Calls Try.prog 81 #[.int .i64 x] W _
  go_enter Try.func81, Try.ntmps81
  go_wp2
  all_goals (go_ret; exact ⟨by simp_all, 0, rfl⟩)

/-- slices.DeleteFunc of a row of the call's own. -/
theorem del_at (base g cap : Nat) (cur : Array Value) (ts : List Int) (w : World) (hbase : base ≤ g) (hg : w.heap[g]? = some (.cells cur 2 (0, 0))) (h1 : ts.length ≤ cap) (h2 : cap ≤ maxLen) (h3 : cur.size = cap * 1) (h4 : cur.toList.take ts.length = ts.map (Value.int .i64)) :
    Calls Try.prog 79 #[.slice (some ⟨g, 0, none⟩) ts.length cap, .func (.func 81) #[] #[]] w fun e w' => ∃ v, e = .returned v ∧ w'.ownsRow base 2 1 v (ts.filter fun x => !decide (x < 0)).length ((ts.filter fun x => !decide (x < 0)).map (Value.int .i64)) ∧ Below base w w' := by
  have eg : ∀ args w, (callFunc 81 args).run Try.prog w = .ok (.enter 81 args) w := enters_of Try.func81 (by kernel_rfl) rfl
  have hc := AnyE.slices_DeleteFunc delA (Value.int .i64) (fun _ => rfl) (fun x => decide (x < 0)) 81 #[] eg 0 Try.zeroValue2 g 0 cap ts.toArray w (fun W x _ => gives81 x W) (fun n os dk x _ => gives81 x _) (holds_of_block_i hg h4) (by simp only [maxLen] at h2; simp; omega) (by simpa using h1)
  change Calls Try.prog 79 _ w _ at hc
  simp only [List.size_toArray] at hc
  refine hc.mono ?_
  rintro e w' ⟨rfl, q, rfl⟩
  have hcl := List.length_filter_le (fun x : Int => !decide (x < 0)) ts
  have ho := ownsRow_sorted_i (ss := ts) (ts := (ts.filter fun x => !decide (x < 0)) ++ List.replicate (ts.length - (ts.filter fun x => !decide (x < 0)).length) 0) (n := q) (os := #[]) (by rw [List.length_append, List.length_replicate]; omega) hbase hg h1 h2 h3
  rw [grow_empty] at ho
  have hgr := grownBy_sorted_i (w := w) (g := g) (n := q) (os := #[]) ((ts.filter fun x => !decide (x < 0)) ++ List.replicate (ts.length - (ts.filter fun x => !decide (x < 0)).length) 0).toArray
  rw [grow_empty] at hgr
  have hs := own_shrink ho (ts.filter fun x => !decide (x < 0)).length hcl
  rw [List.map_append, List.take_append_of_le_length (by simp), List.take_of_length_le (by simp)] at hs
  have hgl : g < w.heap.size := (Array.getElem?_eq_some_iff.1 hg).1
  exact ⟨_, rfl, hs, (Below.refl base w).grown hgr (by omega) (fun k e => by cases e; exact hbase)⟩
#print axioms del_at
end Go.Proofs.Yteoacngaicchiaa.Con
