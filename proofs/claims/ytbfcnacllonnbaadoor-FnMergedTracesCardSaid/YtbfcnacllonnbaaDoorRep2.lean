-- My own: slices.Repeat of one access (two cells) at []impl.Access.
import Derived.Shelf.Bits.Mul64
import Derived.Shelf.RegionOpenPlain
import Derived.Deep.RegionLaw
import Derived.Lib.SliceRun
import Derived.Ground.NamesProg
import Derived.Shelf.Lay
import Derived.Lib.Hide
import Derived.Below
import Derived.Deep.Draws
import Derived.Deep.AppendLies
import Derived.Maps.AppendAt
import Derived.OwnWalk
import Derived.Laws.BytesArg
import Derived.Laws.MakeOwn
import Derived.Laws.OwnMore
import Derived.Deep.OwnRows
import Derived.Tactics
import Derived.Lib.ConvBytes
import Derived.Laws.Slices
import Derived.WalkKit
import Derived.KernelRfl
import Derived.RowKit3
import Derived.Deep.LoopGhost
import Derived.Deep.QuietTactic
import Derived.BigQuiet
import Derived.WideLaws
import Derived.Deep.DeepCutAuto
import Derived.Deep.CutBlock
import Derived.Deep.RegionHeld3
import Derived.Laws.Rows
import Derived.Lib.AppendStr
import Derived.ArgAppend
import Derived.Laws.IdiomCopy
import Derived.OrdersHeld
import Derived.Laws.BitsLemmas
import Derived.RowKit
import Derived.Lib.SlBy
import Derived.Lib.Walk
import Derived.Shelf.Abstract
import Derived.Test.YtbfcnacllonnbaaDoorWWords
import Derived.Test.YtbfcnacllonnbaaDoorWLast
import Derived.Test.YtbfcnacllonnbaaDoorWTab
import Derived.Test.YtbfcnacllonnbaaDoorWFour
import Derived.Test.YtbfcnacllonnbaaDoorWQPut
import Derived.Test.YtbfcnacllonnbaaDoorWApart
import Derived.Test.YtbfcnacllonnbaaDoorWArr
import Derived.Test.YtbfcnacllonnbaaDoorWZeros
import Derived.Test.YtbfcnacllonnbaaDoorWFoot
import Derived.Test.YtbfcnacllonnbaaDoorWKept
import Derived.Test.YtbfcnacllonnbaaDoorWShare
import Derived.Test.YtbfcnacllonnbaaDoorWN
import Derived.Test.YtbfcnacllonnbaaDoorWFootNe
import Derived.Test.YtbfcnacllonnbaaDoorWAt
import Derived.Test.YtbfcnacllonnbaaDoorWEqStruct
import Derived.Test.YtbfcnacllonnbaaDoorWRepsOne
import Derived.Test.YtbfcnacllonnbaaDoorWInv
import Derived.Test.YtbfcnacllonnbaaDoorWInvWords
import Derived.Test.YtbfcnacllonnbaaDoorWGuard
import Derived.Test.YtbfcnacllonnbaaDoorWNEv
import Derived.Test.YtbfcnacllonnbaaDoorWMore
import Derived.Test.YtbfcnacllonnbaaDoorProg
import Derived.Lib.SlKeysI
import Derived.Test.YtbfcnacllonnbaaDoorRep
namespace Go.Proofs.YtbfcnacllonnbaaDoor.Rep2
open Go.RowKit Go.Shelf Go.Lib Go.Proofs.YtbfcnacllonnbaaDoorW.PrintWords Go.Proofs.YtbfcnacllonnbaaDoorW.PrintLast Go.Proofs.YtbfcnacllonnbaaDoorW.PrintMore Go.Proofs.YtbfcnacllonnbaaDoor.Rep
set_option linter.unusedVariables false
set_option linter.unusedSimpArgs false

/-- A copy of elements of any number of cells. -/
theorem run_copy_sized {P : Program} (w : World) (dT sT ty elem : TypeId) (b o dLen dCap : Nat) (a : Addr) (sLen sCap sz : Nat) (cs : List Value)
    (hu : P.underlying dT = some (.slice elem)) (hs : (P.info? elem).map (·.size) = some sz) (hn : cs.length = Nat.min sLen dLen * sz)
    (hsrc : ∀ j v, cs[j]? = some v → w.cell? (a.add j) = some v) (hc : ∀ j, j < cs.length → (w.cell? ⟨b, o + j, none⟩).isSome = true) (hf : ∀ j, j < cs.length → w.frozen? ⟨b, o + j, none⟩ = false) (h1 : ∀ v ∈ cs, v.oneCell' = true) :
    (Builtin.copy_ #[dT, sT] ty #[.slice (some ⟨b, o, none⟩) dLen dCap, .slice (some a) sLen sCap]).run P w = .ok (goInt (Nat.min sLen dLen)) (w.setCells b o cs) := by
  have hl := run_loadCells_list (P := P) w a cs hsrc
  have hst := run_storeCells_cells (P := P) b o cs 0 w (by simpa using hc) (by simpa using hf) h1
  cases hq : P.info? elem with
  | none => simp [hq] at hs
  | some i =>
    have hi : i.size = sz := by simpa [hq] using hs
    rw [hn] at hl
    simp [Builtin.copy_, run_underlying hu, Builtin.lenOf, Builtin.firstCells, sizeOf, typeInfo, hq, hi, hl, hst]
/-- n elements of two cells. -/
def rp (n : Nat) (A B : Value) : List Value := (List.replicate n [A, B]).flatten
theorem rp_len (n : Nat) (A B : Value) : (rp n A B).length = n * 2 := by unfold rp; simp
theorem rp_add (n m : Nat) (A B : Value) : rp n A B ++ rp m A B = rp (n + m) A B := by unfold rp; rw [← List.flatten_append, List.replicate_append_replicate]
theorem rp_one {n : Nat} {A B u : Value} (hA : A.oneCell' = true) (hB : B.oneCell' = true) (h : u ∈ rp n A B) : u.oneCell' = true := by
  unfold rp at h
  rw [List.mem_flatten] at h
  obtain ⟨l, hl, hu⟩ := h
  rw [List.mem_replicate] at hl
  rw [hl.2] at hu
  simp only [List.mem_cons, List.not_mem_nil, or_false] at hu
  rcases hu with rfl | rfl
  · exact hA
  · exact hB
theorem reps_rp {α : Type} {R : α → List Value → Prop} {p : α} {A B : Value} (h : R p [A, B]) : ∀ n : Nat, Reps R 2 (List.replicate n p) (rp n A B)
  | 0 => Reps.none _ _
  | n + 1 => by
    rw [List.replicate_succ', ← rp_add n 1]
    exact (reps_rp h n).snoc h rfl
/-- Cells of a row are written. -/
theorem copy_own {w : World} {base e sz g n cap : Nat} {xs : List Value} (vs : List Value) (o : Nat) (h : w.ownsRow base e sz (.slice (some ⟨g, 0, none⟩) n cap) n xs) (hl : o + vs.length ≤ n * sz) :
    (w.setCells g o vs).ownsRow base e sz (.slice (some ⟨g, 0, none⟩) n cap) n (xs.take o ++ vs ++ xs.drop (o + vs.length)) ∧ w.grownBy (w.setCells g o vs) (some g) := by
  obtain ⟨hx, hv⟩ := h
  rcases hv with ⟨h0, _⟩ | ⟨g', cap', cur, e1, hb, hg, r1, r2, r3, r4⟩
  · cases h0
  cases e1
  have hcap : n * sz ≤ cap * sz := Nat.mul_le_mul_right _ r1
  obtain ⟨c2, s1, s2, s3⟩ := setCells_row vs o w cur hg (by omega)
  have g1 := setCells_same g vs o w
  refine ⟨⟨by simp only [List.length_append, List.length_take, List.length_drop]; omega, .inr ⟨g, cap, c2, rfl, hb, s1, r1, r2, by omega, ?_⟩⟩, ⟨g1.1, g1.2.1, g1.2.2.1, Nat.le_of_eq g1.2.2.2.symm, fun k hk hne2 => setCells_far _ _ k (fun e => hne2 (by rw [e]))⟩⟩
  rw [s3]
  apply List.ext_getElem?
  intro k
  have hcl : cur.toList.length = cap * sz := by rw [Array.length_toList]; omega
  have hcur : ∀ q, q < n * sz → cur.toList[q]? = xs[q]? := fun q hq => by rw [← r4, List.getElem?_take, if_pos hq]
  have sg := seg_get xs vs o (by omega) k
  rw [List.getElem?_take, seg_get _ _ _ (by omega), sg]
  by_cases hk : k < n * sz
  · rw [if_pos hk, hcur k hk]
  · rw [if_neg hk, if_neg (by omega), if_neg (by omega), List.getElem?_eq_none (by omega)]
theorem own_grownBlk {w : World} {base e sz g n cap : Nat} {xs : List Value} (h : w.ownsRow base e sz (.slice (some ⟨g, 0, none⟩) n cap) n xs) : base ≤ g ∧ n ≤ cap ∧ g < w.heap.size := by
  rcases h.2 with ⟨h0, _⟩ | ⟨g', cap', cur, e1, hb, hg, r1, r2, r3, r4⟩
  · cases h0
  cases e1
  exact ⟨hb, r1, (Array.getElem?_eq_some_iff.1 hg).1⟩
theorem infoA : (Tryd.prog.info? 45).map (fun i => (i.zero, i.size, i.bytes)) = some (some (.agg #[(.int .i64 0), (.int .i64 0)]), 2, 16) := by kernel_rfl
/-- Two whole numbers. -/
abbrev d2 : Kd (Int × Int) := Kd.pair (Kd.int .i64) (Kd.int .i64)
theorem d2_K {w : World} {x : Int × Int} {c : List Value} (h : d2.K w x c) : c = [.int .i64 x.1, .int .i64 x.2] := by
  obtain ⟨_, _, rfl, rfl, rfl⟩ := h
  rfl
set_option maxHeartbeats 4000000 in
set_option maxRecDepth 100000 in
theorem repeat2_at (a b : Int) (c : Nat) (h1 : 1 ≤ c) (hc : c ≤ 1000) (A0 : Option Addr) (c0 : Nat) (w : World) (hr : Kd.C d2 w A0 1 [(a, b)]) (hc0 : 1 ≤ c0) :
    Calls Tryd.prog 64 #[.slice A0 1 c0, .int .i64 c] w fun e w' => ∃ v0_ : Value, e = .returned v0_ ∧ w'.ownsRow w.heap.size 45 2 v0_ c (rp c (.int .i64 a) (.int .i64 b)) ∧ Below w.heap.size w w' := by
  have hm := mul_at 1 c (by omega) (by omega) w
  rw [show 1 * c / 18446744073709551616 = 0 by omega, show 1 * c % 18446744073709551616 = c by omega] at hm
  have hb0 : (0 : Int) ≤ (c : Int) := by omega
  have hb1 : (c : Int) ≤ 1000 := by omega
  have hsz : (Tryd.prog.info? 45).map (·.size) = some 2 := by
    obtain ⟨i0, hi0, h0, h1, h2⟩ := info_parts infoA
    rw [hi0]; simp [h1]
  have HSZ := Aside0.mk hsz
  have HR := Aside0.mk hr
  have HC := Aside0.mk (And.intro h1 hc)
  clear hr h1 hc hsz
  go_enter Tryd.func64, Tryd.ntmps64
  go_wp2_with fail
  refine hm.mono ?_
  clear hm
  rintro e w' ⟨rfl, rfl⟩
  go_wp2_with (((with_reducible refine gate_dst (N := 30) rfl ?_); refine Kd.R_make d2 _ 45 rfl (N := 30) rfl 37 _ _ rfl (c : Int) rfl rfl Tryd.underlying37 (.agg #[(.int .i64 0), (.int .i64 0)]) 16 infoA rfl (by decide) (by omega) (0, 0) (ok := fun _ => True) (okp := fun _ => True) ⟨[.int .i64 0], [.int .i64 0], rfl, rfl, rfl⟩ (fun _ hk => hk) trivial hb0 (by have := HC.out; omega) (Below.refl _ _) (Nat.le_refl _) ?_; intro v1 w1 ho hb hg hnew; refine Hid.out ?_))
  refine Lib.hid ?_
  rw [Int.toNat_natCast] at ho
  obtain ⟨g, cap, ev, hgb, hgl, -⟩ := Kd.R_form ho (by rw [List.length_replicate]; exact HC.out.1)
  rw [List.length_replicate] at ev
  subst ev
  obtain ⟨-, inner, ho2, -⟩ := ho
  rw [List.length_replicate] at ho2
  have ho2 : w1.ownsRow w.heap.size 45 2 (.slice (some ⟨g, 0, none⟩) c cap) c inner := ho2
  obtain ⟨ad, cs, e1, hcl, hK, hcell⟩ := Kd.C_get (Kd.C_below HR.out hb) ((0 : Int), (0 : Int)) 0 (by omega) (by decide)
  subst e1
  have hK2 := d2_K hK
  subst hK2
  have hcell2 : ∀ j u, [Value.int .i64 a, Value.int .i64 b][j]? = some u → w1.cell? (ad.add j) = some u := fun j u hj => by
    have := hcell j u hj
    rwa [show (0 : Int).toNat * d2.sz + j = j by show 0 * 2 + j = j; omega] at this
  have hmin : Nat.min 1 c = 1 := by have := HC.out; simp only [Nat.min_def]; split <;> omega
  have hcp : ∀ ty, (Builtin.copy_ #[37, 37] ty #[.slice (some ⟨g, 0, none⟩) c cap, .slice (some ad) 1 c0]).run Tryd.prog w1 = .ok (goInt 1) (w1.setCells g 0 [.int .i64 a, .int .i64 b]) := fun ty => by
    have := run_copy_sized (P := Tryd.prog) w1 37 37 ty 45 g 0 c cap ad 1 c0 2 [.int .i64 a, .int .i64 b] Tryd.underlying37 HSZ.out (by rw [hmin]; rfl) hcell2
      (fun j hj => by
        have hj2 : j < 2 := hj
        have hc1 := HC.out
        have hin : inner.length = c * 2 := ho2.1
        rw [Nat.zero_add, ho2.cellAt j (by omega), List.getElem?_eq_getElem (by omega)]; rfl)
      (fun j hj => by rw [Nat.zero_add]; exact ho2.frozenAt j)
      (fun u hu => by
        simp only [List.mem_cons, List.not_mem_nil, or_false] at hu
        rcases hu with rfl | rfl <;> rfl)
    rw [hmin] at this
    exact this
  have hcr := copy_own [.int .i64 a, .int .i64 b] 0 ho2 (by have := HC.out; simp only [List.length_cons, List.length_nil]; omega)
  have hB2 : Below w.heap.size w (w1.setCells g 0 [.int .i64 a, .int .i64 b]) := hb.grown hcr.2 hb.size (fun k_ e_ => by cases e_; exact hgb)
  have R1 : Aside0 (∃ I : List Value, (w1.setCells g 0 [.int .i64 a, .int .i64 b]).ownsRow w.heap.size 45 2 (.slice (some ⟨g, 0, none⟩) c cap) c I ∧ I.take (1 * 2) = rp 1 (.int .i64 a) (.int .i64 b)) := ⟨⟨_, hcr.1, by rfl⟩⟩
  have B1 := Aside0.mk hB2
  have HG := Aside0.mk hgb
  clear ho2 hb hg hnew hcell hcell2 hcr hB2 hgb hgl hK hcl hmin
  go_wp2_with (at_builtin; refine wpList_copy_runI _ rfl _ _ 37 37 rfl _ _ rfl rfl (hcp _) ?_)
  clear hcp
  generalize w1.setCells g 0 [.int .i64 a, .int .i64 b] = w2 at R1 B1 ⊢
  go_loopg [8] c (fun kq v8 w' => ∃ n : Nat, v8 = .int .i64 n ∧ Aside0 (1 ≤ n ∧ n ≤ c ∧ c - n ≤ kq) ∧ Aside0 (∃ I : List Value, w'.ownsRow w.heap.size 45 2 (.slice (some ⟨g, 0, none⟩) c cap) c I ∧ I.take (n * 2) = rp n (.int .i64 a) (.int .i64 b)) ∧ Aside0 (Below w.heap.size w w'))
  case atStart =>
    exact ⟨1, rfl, ⟨by have := HC.out; omega⟩, R1, B1⟩
  case round =>
    clear R1 B1
    obtain ⟨n, rfl, HN, HR1, HB⟩ := hrel
    obtain ⟨I, hI, hT⟩ := HR1.out
    by_cases hlt : n < c
    · have c1 : decide (n < c) = true := decide_eq_true hlt
      obtain ⟨m, hm⟩ : ∃ m, m = Nat.min n (c - n) := ⟨_, rfl⟩
      have hm1 : 1 ≤ m ∧ n + m ≤ c ∧ m ≤ n := by
        have := HN.out
        rw [hm]; simp only [Nat.min_def]; split <;> omega
      have mixed : Tryd.prog.follows .mixedOrders = true := by kernel_rfl
      have hcc : c ≤ cap := (own_grownBlk hI).2.1
      have hIl : I.length = c * 2 := hI.1
      have hd1 : wr.drew.ownsRow w.heap.size 45 2 (.slice (some ⟨g, 0, none⟩) c cap) c I := hI
      have hvl := rp_len m (.int .i64 a) (.int .i64 b)
      have hcp : ∀ ty dc sc, (Builtin.copy_ #[37, 37] ty #[.slice (some ⟨g, n * 2, none⟩) (c - n) dc, .slice (some ⟨g, 0, none⟩) n sc]).run Tryd.prog wr.drew = .ok (goInt m) (wr.drew.setCells g (n * 2) (rp m (.int .i64 a) (.int .i64 b))) := fun ty dc sc => by
        have := run_copy_sized (P := Tryd.prog) wr.drew 37 37 ty 45 g (n * 2) (c - n) dc ⟨g, 0, none⟩ n sc 2 (rp m (.int .i64 a) (.int .i64 b)) Tryd.underlying37 HSZ.out (by rw [hvl, hm])
          (fun j u hj => by
            have hj1 : j < m * 2 := by have := (List.getElem?_eq_some_iff.1 hj).1; omega
            have e3 : rp n (.int .i64 a) (.int .i64 b) = rp m (.int .i64 a) (.int .i64 b) ++ rp (n - m) (.int .i64 a) (.int .i64 b) := by rw [rp_add, show m + (n - m) = n by omega]
            have e4 : (rp n (.int .i64 a) (.int .i64 b))[j]? = (rp m (.int .i64 a) (.int .i64 b))[j]? := by rw [e3]; exact List.getElem?_append_left (by omega)
            rw [add_plain, hd1.cellAt j (by omega), ← hj, ← e4, ← hT, List.getElem?_take, if_pos (by omega)])
          (fun j hj => by rw [hd1.cellAt (n * 2 + j) (by omega), List.getElem?_eq_getElem (by omega)]; rfl) (fun j hj => hd1.frozenAt _)
          (fun u hu => rp_one rfl rfl hu)
        rw [← hm] at this
        exact this
      have hcr := copy_own (rp m (.int .i64 a) (.int .i64 b)) (n * 2) hd1 (by omega)
      have hB2 := (below_drew1 HB.out).grown hcr.2 HB.out.size (fun k_ e_ => by cases e_; exact HG.out)
      have R1 : Aside0 (∃ I2 : List Value, (wr.drew.setCells g (n * 2) (rp m (.int .i64 a) (.int .i64 b))).ownsRow w.heap.size 45 2 (.slice (some ⟨g, 0, none⟩) c cap) c I2 ∧ I2.take ((n + m) * 2) = rp (n + m) (.int .i64 a) (.int .i64 b)) := ⟨⟨_, hcr.1, by
        rw [hT, rp_add, List.take_append_of_le_length (by rw [rp_len]; omega), List.take_of_length_le (by rw [rp_len]; omega)]⟩⟩
      have B1 := Aside0.mk hB2
      have HM := Aside0.mk hm1
      have hb2 : ¬ (cap = n) := by omega
      have hb3 : (n : Int) ≤ (c : Int) := by omega
      have hb4 : (n : Int) ≤ (cap : Int) := by omega
      have hb5 : n ≤ c := by omega
      have hb6 : n ≤ cap := by omega
      have hw1 : IntKind.i64.wrap ((n : Int) + (m : Int)) = (n : Int) + (m : Int) := by rw [IntKind.wrap_i64]; omega
      generalize rp m (.int .i64 a) (.int .i64 b) = vs at hcp R1 B1
      have HLT := Aside0.mk hlt
      clear hm hm1 hcc hd1 hvl hcr hB2 hlt HR1 HB hI hT hIl
      try go_wp2
      go_region_law_o (refine step_copy_runI rfl _ _ 37 37 rfl _ _ (by simp [Act.eval, Act.put]) (by simp [Act.eval, Act.put]) (hcp _ _ _) ?_)
      go_wp2
      go_roundg (c - (n + m))
      case measure => have := HN.out; have := HM.out; omega
      case rel =>
        exact ⟨n + m, by first | rfl | (simp; done), ⟨by have := HN.out; have := HM.out; omega⟩, R1, B1⟩
    · have e : n = c := by have := HN.out; omega
      subst e
      have c1 : decide (n < n) = false := decide_eq_false (Nat.lt_irrefl _)
      rw [List.take_of_length_le (Nat.le_of_eq hI.1)] at hT
      subst hT
      have R1 := Aside0.mk hI
      clear hI HR1 hlt
      go_wp2
      go_ret
      exact ⟨_, rfl, R1.out, HB.out⟩
end Go.Proofs.YtbfcnacllonnbaaDoor.Rep2
