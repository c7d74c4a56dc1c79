-- My own: slices.Delete and slices.Insert of one number at []int64 at the dump of seat r3 (Insert: turned from the shelf's text on []string), and impl.moved.
import Derived.Test.YtigbabolmahlaaaProg
import Derived.Test.YtigbabolmahlaaaWMore
import Derived.Shelf.SlicesE.Delete
import Derived.Shelf.Spec.SlicesInsert
import Derived.Ground.SlgnProg
import Derived.Lib.SlKeysI
namespace Go.Proofs.Ytigbabolmahlaaa.Ins
open Go.RowKit Go.Shelf Go.Sort Go.Lib Go.Proofs.YtigbabolmahlaaaW.PrintWords Go.Proofs.YtigbabolmahlaaaW.PrintLast Go.Proofs.YtigbabolmahlaaaW.PrintMore
set_option linter.unusedVariables false
set_option linter.unusedSimpArgs false

def delA_ren : Go.Shelf.Ren := ⟨fun | 45 => 77 | n => n, fun | 22 => 23 | 23 => 2 | 3 => 3 | 4 => 4 | 0 => 0 | n => n, fun | n => n⟩
theorem delA : Go.Proofs.SlLaysE.n45 Try.prog delA_ren := {
  mixed := by kernel_rfl
  f45 := ⟨Try.f77.name, by decide, Try.func77.trans (congrArg some (by kernel_rfl))⟩
  t0 := Try.underlying0
  a0 := Try.isAgg0
  z0 := Try.sizeOf0
  v0 := Try.zeroValue0
  t3 := Try.underlying3
  a3 := Try.isAgg3
  z3 := Try.sizeOf3
  v3 := Try.zeroValue3
  t4 := Try.underlying4
  a4 := Try.isAgg4
  z4 := Try.sizeOf4
  v4 := Try.zeroValue4
  t22 := Try.underlying23
  a22 := Try.isAgg23
  z22 := Try.sizeOf23
  v22 := Try.zeroValue23
  a23 := Try.isAgg2
  z23 := Try.sizeOf2 }
theorem info2 : (Try.prog.info? 2).map (fun i => (i.zero, i.size, i.bytes)) = some (some (.int .i64 0), 1, 8) := by kernel_rfl
theorem size2 (w : World) : (Go.sizeOf 2).run Try.prog w = .ok 1 w := by kernel_rfl

set_option maxHeartbeats 4000000 in
set_option maxRecDepth 100000 in
theorem insert_shift (b off n c i vb voff m vc : Nat) (cs vs : List Value) (w : World) (hi : i < n) (hm : 0 < m) (hroom : n + m ≤ c) (hc63 : c ≤ 9223372036854775807) (hvb : vb ≠ b)
    (hcl : cs.length = n) (hvl : vs.length = m)
    (hcs : ∀ j v, cs[j]? = some v → w.cell? ⟨b, off + j, none⟩ = some v) (hsp : ∀ j, j < n + m → (w.cell? ⟨b, off + j, none⟩).isSome = true) (hfz : ∀ j, j < n + m → w.frozen? ⟨b, off + j, none⟩ = false)
    (hvs : ∀ j v, vs[j]? = some v → w.cell? ⟨vb, voff + j, none⟩ = some v) (h1c : ∀ v ∈ cs, v.oneCell' = true) (h1v : ∀ v ∈ vs, v.oneCell' = true)
    (tA tB : TypeId) (kA kB : Nat) (hsa : w.shape? vb = some (tA, kA)) (hsb : w.shape? b = some (tB, kB)) (hkB : kB ≠ 0) (hfa : w.frozen? ⟨vb, voff, none⟩ = false) (hfe : w.frozen? ⟨vb, kA, none⟩ = false) :
    Calls Try.prog 78 #[.slice (some ⟨b, off, none⟩) n c, .int .i64 i, .slice (some ⟨vb, voff, none⟩) m vc] w fun e w' =>
      e = .returned (.slice (some ⟨b, off, none⟩) (n + m) c) ∧ w' = (w.drew.setCells b (off + (i + m)) (cs.drop i)).setCells b (off + i) vs := by
  have hz1 : ¬ ((m : Int) = 0) := by omega
  have hz2 : ¬ ((i : Int) = (n : Int)) := by omega
  have mixed : Try.prog.follows .mixedOrders = true := by kernel_rfl
  have hsz : (Try.prog.info? 2).map (·.size) = some 1 := by
    obtain ⟨i0, hi0, h0, h1, h2⟩ := info_parts info2
    rw [hi0]; simp [h1]
  have hov : ∀ lb cb, (callFunc 84 #[.slice (some ⟨vb, voff, none⟩) m vc, .slice (some ⟨b, off + (i + m), none⟩) lb cb]).run Try.prog w = .ok (.value (.bool false)) w := fun lb cb => by
    rw [run_callFunc_extern Try.func84 (by kernel_rfl) (by kernel_rfl) (by kernel_rfl) (e := Extern.SlicesOverlaps.overlaps #[23, 23] #[4]) (by kernel_rfl),
      Lib.run_overlaps_apart w 23 4 2 Try.underlying23 1 size2 ⟨vb, voff, none⟩ ⟨b, off + (i + m), none⟩ m vc lb cb hvb tA tB kA kB hsa hsb hkB hfa hfe]
    rfl
  have hdl : (cs.drop i).length = n - i := by rw [List.length_drop, hcl]
  have hw1 : IntKind.i64.wrap ((i : Int) + (m : Int)) = (i : Int) + (m : Int) := by rw [IntKind.wrap_i64]; omega
  have hb1 : (0 : Int) ≤ (i : Int) + (m : Int) := by omega
  have hin : i ≤ n := by omega
  have htn : ((i : Int) + (m : Int)).toNat = i + m := by omega
  have hb2 : ¬ (c = i + m) := by omega
  have hb3 : (i : Int) ≤ (n : Int) + (m : Int) := by omega
  have hb4 : ¬ (c = i) := by omega
  have hcp1 : ∀ ty dc sc, (Builtin.copy_ #[23, 23] ty #[.slice (some ⟨b, off + (i + m), none⟩) (n + m - (i + m)) dc, .slice (some ⟨b, off + i, none⟩) (n + m - i) sc]).run Try.prog w.drew = .ok (goInt (cs.drop i).length) (w.drew.setCells b (off + (i + m)) (cs.drop i)) := fun ty dc sc =>
    run_copy_cells w.drew _ _ ty 2 b (off + (i + m)) (n + m - (i + m)) dc ⟨b, off + i, none⟩ (n + m - i) sc (cs.drop i) Try.underlying23 hsz (by rw [hdl]; simp only [Nat.min_def]; split <;> omega)
      (fun j v hj => by rw [Addr.add_lit, Nat.add_assoc]; exact hcs (i + j) v (by rwa [List.getElem?_drop] at hj))
      (fun j hj => by rw [Nat.add_assoc]; exact hsp _ (by omega)) (fun j hj => by rw [Nat.add_assoc]; exact hfz _ (by omega)) (fun v hv => h1c v (List.mem_of_mem_drop hv))
  obtain ⟨W1, hW1⟩ : ∃ W1, W1 = w.drew.setCells b (off + (i + m)) (cs.drop i) := ⟨_, rfl⟩
  have hsp1 : ∀ k, k < n + m → (W1.cell? ⟨b, off + k, none⟩).isSome = true := fun k hk => by
    rw [hW1]
    exact isSome_setCells b _ _ _ (fun j hj => by rw [Nat.add_assoc]; exact hsp _ (by omega)) _ (hsp k hk)
  have hcp2 : ∀ (W : World), (∀ x, W.cell? x = W1.cell? x) → (∀ x, W.frozen? x = W1.frozen? x) → ∀ ty dc, (Builtin.copy_ #[23, 23] ty #[.slice (some ⟨b, off + i, none⟩) (n + m - i) dc, .slice (some ⟨vb, voff, none⟩) m vc]).run Try.prog W = .ok (goInt vs.length) (W.setCells b (off + i) vs) := fun W hWc hWf ty dc =>
    run_copy_cells W _ _ ty 2 b (off + i) (n + m - i) dc ⟨vb, voff, none⟩ m vc vs Try.underlying23 hsz (by rw [hvl]; simp only [Nat.min_def]; split <;> omega)
      (fun j v hj => by
        rw [Addr.add_lit, hWc, hW1, World.cell?_setCells_out b _ _ _ _ (fun h _ => absurd h hvb)]
        exact hvs j v hj)
      (fun j hj => by rw [hWc, Nat.add_assoc]; exact hsp1 _ (by omega)) (fun j hj => by rw [hWf, hW1, World.frozen?_setCells, Nat.add_assoc]; exact hfz _ (by omega)) h1v
  rw [← hW1] at hcp1
  go_enter Try.func78, Try.ntmps78
  go_wp2_with (simp only [hov])
  go_region_law_o (refine step_copy_runI rfl _ _ 23 23 rfl _ _ (by simp [Act.eval, Act.put]) (by simp [Act.eval, Act.put]) (hcp1 _ _ _) ?_)
  go_wp2_with (at_builtin; refine wpList_copy_runI _ rfl _ _ 23 23 rfl _ _ rfl rfl (hcp2 _ (fun _ => rfl) (fun _ => rfl) _ _) ?_)
  go_ret
  first | exact ⟨rfl, rfl⟩ | exact ⟨rfl, by rw [hW1]⟩

set_option maxHeartbeats 4000000 in
set_option maxRecDepth 100000 in
theorem insert_end (b off n c vb voff m vc : Nat) (vs : List Value) (w : World) (hm : 0 < m) (hroom : n + m ≤ c) (hc63 : c ≤ 9223372036854775807)
    (hvl : vs.length = m) (hsp : ∀ j, j < m → (w.cell? ⟨b, off + n + j, none⟩).isSome = true) (hfz : ∀ j, j < m → w.frozen? ⟨b, off + n + j, none⟩ = false)
    (hvs : ∀ j v, vs[j]? = some v → w.cell? ⟨vb, voff + j, none⟩ = some v) (h1v : ∀ v ∈ vs, v.oneCell' = true) :
    Calls Try.prog 78 #[.slice (some ⟨b, off, none⟩) n c, .int .i64 n, .slice (some ⟨vb, voff, none⟩) m vc] w fun e w' =>
      e = .returned (.slice (some ⟨b, off, none⟩) (n + m) c) ∧ w' = w.setCells b (off + n) vs := by
  have hz1 : ¬ ((m : Int) = 0) := by omega
  have hsrc : Src Try.prog 1 23 (.slice (some ⟨vb, voff, none⟩) m vc) m vs w := Src.ofSlice w Try.underlying23 ⟨vb, voff, none⟩ m vc vs (by omega) (fun j u hj => by rw [Addr.add_lit]; exact hvs j u hj) h1v
  go_enter Try.func78, Try.ntmps78
  go_wp2_with (at_builtin; refine wpList_append_room1 _ rfl _ _ 23 23 rfl 2 _ _ Try.underlying23 info2 b off n c rfl _ rfl m vs hsrc hroom (by rw [hvl]; exact hsp) (by rw [hvl]; exact hfz) ?_)
  go_ret
  exact ⟨rfl, rfl⟩
theorem own_cut {w : World} {base e g n cap : Nat} {xs : List Value} (h : w.ownsRow base e 1 (.slice (some ⟨g, 0, none⟩) n cap) n xs) (m : Nat) (hm : m ≤ n) :
    w.ownsRow base e 1 (.slice (some ⟨g, 0, none⟩) m cap) m (xs.take m) := by
  obtain ⟨hl, h⟩ := h
  rcases h with ⟨h0, _⟩ | ⟨g', cap', cur, e1, hg, hh, a, b, c, d⟩
  · cases h0
  · cases e1
    refine ⟨by rw [List.length_take]; omega, .inr ⟨g, cap, cur, rfl, hg, hh, by omega, b, c, ?_⟩⟩
    rw [← d, List.take_take]
    congr 1
    omega
/-- slices.Delete of one number of a row of one's own. -/
theorem delete_at (base g n cap : Nat) (ok : Nat → Prop) (xs : List Int) (i : Nat) (w : World) (h : Kd.R (Kd.int .i64) 2 w base ok (.slice (some ⟨g, 0, none⟩) n cap) xs) (hi : i < n) :
    Calls Try.prog 77 #[.slice (some ⟨g, 0, none⟩) n cap, .int .i64 i, .int .i64 ((i + 1 : Nat) : Int)] w fun e w' => e = .returned (.slice (some ⟨g, 0, none⟩) (n - 1) cap) ∧ Kd.R (Kd.int .i64) 2 w' base ok (.slice (some ⟨g, 0, none⟩) (n - 1) cap) (xs.eraseIdx i) ∧ w.grownBy w' (some g) := by
  have hn := (Kd.R_reads' h).1
  subst hn
  have hok := h.1
  have ho := Kd.own_of_R h
  obtain ⟨hl, hv⟩ := ho
  rcases hv with ⟨h0, _⟩ | ⟨g', cap', cur, e1, hb, hg, r1, r2, r3, r4⟩
  · cases h0
  cases e1
  obtain ⟨i0, hi0, _, hz1, _⟩ := info_parts info2
  rw [Nat.mul_one] at r4
  have r4' : cur.toList.take xs.length = xs.map (Value.int .i64) := r4
  have hc := AnyE.slices_Delete delA (Value.int .i64) (fun _ => rfl) 0 Try.zeroValue2 i0 hi0 hz1 g 0 cap i (i + 1) xs.toArray w (holds_of_block_i hg r4') (by simpa using r1) (by simp only [maxLen] at r2; omega) (by omega) (by simp; omega)
  change Calls Try.prog 77 _ w _ at hc
  simp only [List.size_toArray] at hc
  refine hc.mono ?_
  rintro e w' ⟨rfl, q, rfl⟩
  have hsub : i + 1 - i = 1 := by omega
  rw [hsub]
  have ho := ownsRow_sorted_i (ss := xs) (ts := xs.take i ++ xs.drop (i + 1) ++ List.replicate 1 0) (n := q) (os := #[]) (by simp; omega) hb hg r1 r2 r3
  rw [grow_empty] at ho
  have hgr := grownBy_sorted_i (w := w) (g := g) (n := q) (os := #[]) (xs.take i ++ xs.drop (i + 1) ++ List.replicate 1 0).toArray
  rw [grow_empty] at hgr
  have hs := own_cut ho (xs.length - 1) (by omega)
  have e3 : ((xs.take i ++ xs.drop (i + 1) ++ List.replicate 1 0).map encZ).take (xs.length - 1) = (xs.eraseIdx i).map (Value.int .i64) := by
    rw [← List.map_take, List.take_append_of_le_length (by simp; omega), List.take_of_length_le (by simp; omega), List.eraseIdx_eq_take_drop_succ]
  rw [e3] at hs
  have hle : (xs.eraseIdx i).length = xs.length - 1 := by rw [List.length_eraseIdx, if_pos hi]
  refine ⟨rfl, ?_, hgr⟩
  rw [← hle] at hs ⊢
  exact Kd.R_of_own hs (fun k hk => hok k hk)

/-- slices.Insert of one number into a row of one's own that has room. -/
theorem insert_at (base g n cap vb : Nat) (ok : Nat → Prop) (xs : List Int) (i : Nat) (x : Int) (w : World) (h : Kd.R (Kd.int .i64) 2 w base ok (.slice (some ⟨g, 0, none⟩) n cap) xs) (hi : i ≤ n) (hroom : n + 1 ≤ cap) (hvb : w.heap[vb]? = some (.cells #[.int .i64 x] 2 (0, 0))) (hne : vb ≠ g) :
    Calls Try.prog 78 #[.slice (some ⟨g, 0, none⟩) n cap, .int .i64 i, .slice (some ⟨vb, 0, none⟩) 1 1] w fun e w' => e = .returned (.slice (some ⟨g, 0, none⟩) (n + 1) cap) ∧ Kd.R (Kd.int .i64) 2 w' base ok (.slice (some ⟨g, 0, none⟩) (n + 1) cap) (xs.take i ++ x :: xs.drop i) ∧ w.grownBy w' (some g) := by
  have hn := (Kd.R_reads' h).1
  subst hn
  have hok := h.1
  obtain ⟨hl, hv⟩ := Kd.own_of_R h
  rcases hv with ⟨h0, _⟩ | ⟨g', cap', cur, e1, hb, hg, r1, r2, r3, r4⟩
  · cases h0
  cases e1
  rw [Nat.mul_one] at r4 r3
  have r4' : cur.toList.take xs.length = xs.map (Value.int .i64) := r4
  have hcell : ∀ k, w.cell? ⟨g, k, none⟩ = cur[k]? := fun k => blk_cell hg k
  have hcv : w.cell? ⟨vb, 0, none⟩ = some (.int .i64 x) := (blk_cell hvb 0).trans rfl
  have hsp : ∀ k, k < cap → (w.cell? ⟨g, k, none⟩).isSome = true := fun k hk => by rw [hcell, Array.getElem?_eq_getElem (by omega)]; rfl
  have hm : cap ≤ 9223372036854775807 := by simp only [maxLen] at r2; omega
  have hvs : ∀ (j : Nat) (v : Value), [Value.int .i64 x][j]? = some v → w.cell? ⟨vb, 0 + j, none⟩ = some v := fun j v hj => by
    cases j with
    | zero => rw [← hj]; exact hcv
    | succ j => simp at hj
  have hcs : ∀ (j : Nat) (v : Value), (xs.map (Value.int .i64))[j]? = some v → w.cell? ⟨g, 0 + j, none⟩ = some v := fun j v hj => by
    rw [Nat.zero_add, hcell, ← hj, ← r4', List.getElem?_take]
    have : j < xs.length := by have := (List.getElem?_eq_some_iff.1 hj).1; simpa using this
    rw [if_pos this, Array.getElem?_toList]
  have h1c : ∀ v ∈ xs.map (Value.int .i64), v.oneCell' = true := fun v hv => by
    obtain ⟨y, _, rfl⟩ := List.mem_map.1 hv
    rfl
  have h1v : ∀ v ∈ [Value.int .i64 x], v.oneCell' = true := fun v hv => by
    rw [List.mem_singleton] at hv; rw [hv]; rfl
  have fin : ∀ (W : World) (cur2 : Array Value), W.heap[g]? = some (.cells cur2 2 (0, 0)) → cur2.size = cap → cur2.toList.take (xs.length + 1) = (xs.take i ++ x :: xs.drop i).map (Value.int .i64) → Kd.R (Kd.int .i64) 2 W base ok (.slice (some ⟨g, 0, none⟩) (xs.length + 1) cap) (xs.take i ++ x :: xs.drop i) := by
    intro W cur2 q1 q2 q3
    have hle : (xs.take i ++ x :: xs.drop i).length = xs.length + 1 := by simp; omega
    have : W.ownsRow base 2 1 (.slice (some ⟨g, 0, none⟩) (xs.take i ++ x :: xs.drop i).length cap) (xs.take i ++ x :: xs.drop i).length ((xs.take i ++ x :: xs.drop i).map (Value.int .i64)) :=
      ⟨by simp, .inr ⟨g, cap, cur2, rfl, hb, q1, by rw [hle]; omega, r2, by rw [Nat.mul_one]; exact q2, by rw [hle, Nat.mul_one]; exact q3⟩⟩
    rw [← hle]
    exact Kd.R_of_own this (fun k hk => hok k hk)
  by_cases hlt : i < xs.length
  · have hc := insert_shift g 0 xs.length cap i vb 0 1 1 (xs.map (Value.int .i64)) [.int .i64 x] w hlt (by omega) hroom hm hne (by simp) rfl hcs (fun j hj => by rw [Nat.zero_add]; exact hsp j (by omega)) (fun j _ => blk_frozen hg _) hvs h1c h1v 2 2 1 cap
      (by simp [World.shape?, hvb]) (by simp [World.shape?, hg, r3]) (by omega) (blk_frozen hvb 0) (blk_frozen hvb 1)
    refine hc.mono ?_
    rintro e w' ⟨rfl, rfl⟩
    have hgd : w.drew.heap[g]? = some (.cells cur 2 (0, 0)) := hg
    have hd : ((xs.map (Value.int .i64)).drop i).length = xs.length - i := by simp
    obtain ⟨c1, q1, q2, q3⟩ := setCells_row ((xs.map (Value.int .i64)).drop i) (0 + (i + 1)) w.drew cur hgd (by rw [hd]; omega)
    obtain ⟨c2, s1, s2, s3⟩ := setCells_row [.int .i64 x] (0 + i) _ c1 q1 (by simp; omega)
    have g1 := setCells_same g ((xs.map (Value.int .i64)).drop i) (0 + (i + 1)) w.drew
    have g2 := setCells_same g [.int .i64 x] (0 + i) (w.drew.setCells g (0 + (i + 1)) ((xs.map (Value.int .i64)).drop i))
    refine ⟨rfl, fin _ c2 s1 (by omega) ?_, ⟨g2.1.trans g1.1, g2.2.1.trans g1.2.1, g2.2.2.1.trans g1.2.2.1, Nat.le_of_eq (g2.2.2.2.trans g1.2.2.2).symm, fun k hk hne2 => ?_⟩⟩
    · apply List.ext_getElem?
      intro k
      have hc2 : c1.toList.length = cap := by rw [Array.length_toList]; omega
      have hcu : cur.toList.length = cap := by rw [Array.length_toList]; omega
      have hcur : ∀ q, q < xs.length → cur.toList[q]? = (xs.map (Value.int .i64))[q]? := fun q hq => by rw [← r4', List.getElem?_take, if_pos hq]
      rw [List.getElem?_take, s3, seg_get _ _ _ (by simp; omega), q3, seg_get _ _ _ (by rw [hd]; omega), hd, List.map_append, List.map_take, List.map_cons, List.map_drop]
      simp only [Nat.zero_add, List.length_singleton]
      by_cases hk : k < xs.length + 1
      · rw [if_pos hk]
        by_cases h1 : k < i
        · rw [if_pos h1, if_pos (by omega), hcur k (by omega), List.getElem?_append_left (by simp; omega), List.getElem?_take, if_pos h1]
        · rw [if_neg h1]
          rw [List.getElem?_append_right (by simp; omega)]
          have hl2 : (List.take i (xs.map (Value.int .i64))).length = i := by simp; omega
          rw [hl2]
          by_cases h2 : k < i + 1
          · have : k = i := by omega
            subst this
            rw [if_pos h2, Nat.sub_self]
            rfl
          · rw [if_neg h2, if_neg h2, if_pos (by omega)]
            obtain ⟨z, hz⟩ : ∃ z, k - i = z + 1 := ⟨k - i - 1, by omega⟩
            rw [hz, List.getElem?_cons_succ, show k - (i + 1) = z by omega]
      · rw [if_neg hk, List.getElem?_eq_none (by simp; omega)]
    · rw [setCells_far _ _ k (fun e => hne2 (by rw [e])), setCells_far _ _ k (fun e => hne2 (by rw [e]))]
      rfl
  · obtain rfl : i = xs.length := by omega
    have hc := insert_end g 0 xs.length cap vb 0 1 1 [.int .i64 x] w (by omega) hroom hm rfl (fun j hj => by rw [Nat.zero_add]; exact hsp _ (by omega)) (fun j _ => blk_frozen hg _) hvs h1v
    refine hc.mono ?_
    rintro e w' ⟨rfl, rfl⟩
    obtain ⟨c2, s1, s2, s3⟩ := setCells_row [.int .i64 x] (0 + xs.length) w cur hg (by simp; omega)
    have g1 := setCells_same g [.int .i64 x] (0 + xs.length) w
    refine ⟨rfl, fin _ c2 s1 (by omega) ?_, ⟨g1.1, g1.2.1, g1.2.2.1, Nat.le_of_eq g1.2.2.2.symm, fun k hk hne2 => ?_⟩⟩
    · rw [s3, Nat.zero_add, List.take_of_length_le (Nat.le_refl _), List.drop_length, r4', List.map_append, List.take_append_of_le_length (by simp), List.take_of_length_le (by simp)]
      rfl
    · rw [setCells_far _ _ k (fun e => hne2 (by rw [e]))]
def ascL (n : Nat) : List Int := (List.range n).map (fun (k : Nat) => (k : Int))
theorem ascL_len (n : Nat) : (ascL n).length = n := by simp [ascL]
/-- What impl.moved makes. -/
def movedL (n i t : Nat) : List Int := ((ascL n).eraseIdx i).take t ++ (i : Int) :: ((ascL n).eraseIdx i).drop t
set_option maxHeartbeats 4000000 in
set_option maxRecDepth 100000 in
theorem moved_at (n i t : Nat) (hi : i < n) (ht : t < n) (hn : n ≤ 1000000) (w : World)
    (hasc : ∀ W, Calls Try.prog 64 #[.int .i64 n] W fun e w' => ∃ v, e = .returned v ∧ Kd.R (Kd.int .i64) 2 w' W.heap.size (fun _ => True) v (ascL n) ∧ Below W.heap.size W w') :
    Calls Try.prog 59 #[.int .i64 n, .int .i64 i, .int .i64 t] w fun e w' => ∃ v, e = .returned v ∧ Kd.R (Kd.int .i64) 2 w' w.heap.size (fun _ => True) v (movedL n i t) ∧ Below w.heap.size w w' := by
  have hc1 := hasc w
  clear hasc
  have hb1 : (i : Int) ≤ 1000000 := by omega
  have hb0 : (0 : Int) ≤ (i : Int) := by omega
  have HB := Aside0.mk (show i < n ∧ t < n ∧ n ≤ 1000000 from ⟨hi, ht, hn⟩)
  clear hi ht hn
  go_enter Try.func59, Try.ntmps59
  go_wp2_with fail
  refine hc1.mono ?_
  clear hc1
  rintro e w1 ⟨v, rfl, h1, b1⟩
  obtain ⟨g, cap, ev, -, -, -⟩ := Kd.R_form h1 (by rw [ascL_len]; have := HB.out; omega)
  rw [ascL_len] at ev
  subst ev
  have hcap := (Kd.R_reads' h1).2.1
  have hgl := Kd.R_lt h1 g rfl
  have hgb := Kd.R_base h1 g rfl
  have hc2 := delete_at w.heap.size g n cap _ (ascL n) i w1 h1 HB.out.1
  rw [show ((i + 1 : Nat) : Int) = (i : Int) + 1 by omega] at hc2
  have H1 := Aside0.mk (show n ≤ cap ∧ g < w1.heap.size ∧ w.heap.size ≤ g from ⟨hcap, hgl, hgb⟩)
  have B1 := Aside0.mk b1
  clear h1 b1 hcap hgl hgb
  go_wp2_with fail
  refine hc2.mono ?_
  clear hc2
  rintro e w2 ⟨rfl, h2, g2⟩
  have hlen : ((ascL n).eraseIdx i).length = n - 1 := by rw [List.length_eraseIdx, ascL_len, if_pos HB.out.1]
  have hgl2 : g < w2.heap.size := Nat.lt_of_lt_of_le H1.out.2.1 g2.size
  have hvb : (w2.alloc (.cells #[.int .i64 (i : Int)] 2)).heap[w2.heap.size]? = some (.cells #[.int .i64 (i : Int)] 2 (0, 0)) := by show (w2.heap.push _)[w2.heap.size]? = _; exact Array.getElem?_push_size
  have hc3 := insert_at w.heap.size g (n - 1) cap w2.heap.size _ ((ascL n).eraseIdx i) t (i : Int) (w2.alloc (.cells #[.int .i64 (i : Int)] 2)) (Kd.R_alloc h2 _) (by have := HB.out; omega) (by have := HB.out; have := H1.out; omega) hvb (by omega)
  rw [show n - 1 + 1 = n by have := HB.out; omega] at hc3
  have B2 := Aside0.mk (B1.out.grown g2 (by have := B1.out.size; omega) (fun k e => by cases e; exact H1.out.2.2))
  clear h2 hlen hvb B1 g2
  go_wp2_with fail
  refine hc3.mono ?_
  clear hc3
  rintro e w3 ⟨rfl, h3, g3⟩
  go_wp2
  go_ret
  refine ⟨_, rfl, h3, ?_⟩
  have b3 : Below w.heap.size w (w2.alloc (.cells #[.int .i64 (i : Int)] 2)) := below_alloc B2.out _
  exact b3.grown g3 b3.size (fun k e => by cases e; exact H1.out.2.2)
end Go.Proofs.Ytigbabolmahlaaa.Ins
