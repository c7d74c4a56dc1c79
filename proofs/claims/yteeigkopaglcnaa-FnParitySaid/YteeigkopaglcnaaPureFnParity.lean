/- The parity of a number that is combined of two by exclusive or is that of both parities. Conditions: those of the row alone. -/
import Derived.Test.YteeigkopaglcnaaPFnParityx1
namespace Go.Proofs.Yteeigkopaglcnaa.Pure
open Go.RowKit Go.Proofs.Yteeigkopaglcnaa.PFnParity Go.Proofs.YteeigkopaglcnaaW.PrintWords Go.Proofs.YteeigkopaglcnaaW.PrintLast Go.Proofs.YteeigkopaglcnaaW.PrintMore
set_option linter.unusedVariables false
set_option linter.unusedSimpArgs false

theorem wid {x : Int} (h1 : -9223372036854775808 ≤ x) (h2 : x < 9223372036854775808) : wrap64 x = x := by unfold wrap64; omega
theorem i64_bd {x : Int} (h : (Lit.int .i64 x).wf = true) : -9223372036854775808 ≤ x ∧ x ≤ 9223372036854775807 := by
  simp only [Lit.wf, IntKind.min, IntKind.max, IntKind.signed, IntKind.bits, Bool.and_eq_true, decide_eq_true_eq, if_true] at h
  omega
/-- A loop's step, its answer known at once. -/
theorem ev_ret {α : Type} {g : Nat → Option α} {r : α} (h : ∀ k, g (k + 1) = some r) : Ev g r := Ev.step (f := fun _ => some r) h (Ev.now r)
theorem ev_all {α : Type} {g : Nat → Option α} {r : α} (h : ∀ k, g k = some r) : Ev g r := ⟨0, fun k _ => h k⟩

/-! the parity of a number's bits -/
theorem u64w (n : Int) (h0 : 0 ≤ n) (h1 : n < 18446744073709551616) : IntKind.u64.wrap n = n := by
  simp only [IntKind.wrap, IntKind.bits, IntKind.signed]
  simp
  omega
theorem and_u64 (a b : Nat) (ha : a < 18446744073709551616) (hb : b < 18446744073709551616) : Go.bits .and .u64 (a : Int) (b : Int) = ((a &&& b : Nat) : Int) :=
  (bits_nat .u64 64 (by decide) (fun n h0 h1 => u64w n h0 (by simpa using h1)) a b (by simpa using ha) (by simpa using hb)).1
theorem i64w (n : Int) (h0 : 0 ≤ n) (h1 : n < 9223372036854775808) : IntKind.i64.wrap n = n := by
  rw [IntKind.wrap_i64]
  omega
theorem and_i64 (a b : Nat) (ha : a < 9223372036854775808) (hb : b < 9223372036854775808) : Go.bits .and .i64 (a : Int) (b : Int) = ((a &&& b : Nat) : Int) :=
  (bits_nat .i64 63 (by decide) (fun n h0 h1 => i64w n h0 (by simpa using h1)) a b (by simpa using ha) (by simpa using hb)).1
theorem xor_i64 (a b : Nat) (ha : a < 9223372036854775808) (hb : b < 9223372036854775808) : Go.bits .xor .i64 (a : Int) (b : Int) = ((a ^^^ b : Nat) : Int) := by
  have hx : a ^^^ b < 2 ^ 63 := Nat.xor_lt_two_pow (by simpa using ha) (by simpa using hb)
  have ha' : a % 2 ^ IntKind.i64.bits = a := Nat.mod_eq_of_lt (by simp [IntKind.bits]; omega)
  have hb' : b % 2 ^ IntKind.i64.bits = b := Nat.mod_eq_of_lt (by simp [IntKind.bits]; omega)
  simp only [Go.bits, BitVec.ofInt_natCast, BitVec.toNat_xor, BitVec.toNat_ofNat, ha', hb']
  exact i64w _ (by omega) (by omega)
/-- The parity of the bits, bit after bit. -/
def par : Nat → Nat → Nat
  | 0, _ => 0
  | n + 1, x => (x % 2 + par n (x / 2)) % 2
theorem par_le (n x : Nat) : par n x ≤ 1 := by
  cases n with
  | zero => exact Nat.zero_le _
  | succ n => unfold par; omega
theorem par_xor (n : Nat) : ∀ x y, par n (x ^^^ y) = (par n x + par n y) % 2 := by
  induction n with
  | zero => intro x y; rfl
  | succ n ih =>
    intro x y
    have h1 : (x ^^^ y) / 2 = x / 2 ^^^ y / 2 := Nat.xor_div_two_pow (n := 1)
    have h2 : (x ^^^ y) % 2 = (x % 2 + y % 2) % 2 := by
      rw [Nat.xor_mod_two_pow (n := 1)]
      have a := Nat.mod_two_eq_zero_or_one x
      have b := Nat.mod_two_eq_zero_or_one y
      rcases a with a | a <;> rcases b with b | b <;> simp [a, b]
    rw [par, par, par, h1, ih, h2]
    omega
/-- The bits, counted. -/
def cnt : Nat → Nat → Nat
  | 0, _ => 0
  | j + 1, p => p % 2 + cnt j (p / 2)
theorem par_bits (n j : Nat) : ∀ p q, p < 2 ^ j → par (n + j) (p + 2 ^ j * q) = (cnt j p + par n q) % 2 := by
  induction j with
  | zero =>
    intro p q hp
    have hp0 : p = 0 := by simpa using hp
    have := par_le n q
    subst hp0
    rw [cnt, Nat.add_zero, Nat.pow_zero, Nat.one_mul, Nat.zero_add, Nat.zero_add]
    omega
  | succ j ih =>
    intro p q hp
    rw [Nat.pow_succ] at hp
    have e1 : p + 2 ^ (j + 1) * q = p + 2 * (2 ^ j * q) := by rw [Nat.pow_succ, Nat.mul_comm (2 ^ j) 2, Nat.mul_assoc]
    have e := ih (p / 2) q (by omega)
    rw [e1, ← Nat.add_assoc, par, cnt, show (p + 2 * (2 ^ j * q)) / 2 = p / 2 + 2 ^ j * q by omega, e]
    omega
def pc (p : Nat) : Nat := cnt 8 p
theorem par_byte (n p q : Nat) (hp : p < 256) : par (n + 8) (p + 256 * q) = (pc p + par n q) % 2 := par_bits n 8 p q hp
/-- The mask of n bytes a. -/
def rep (a : Nat) : Nat → Nat
  | 0 => 0
  | n + 1 => a + 256 * rep a n
theorem and_byte (p q y r : Nat) (hp : p < 256) (hy : y < 256) : (p + 256 * q) &&& (y + 256 * r) = (p &&& y) + 256 * (q &&& r) := by
  have h1 : ((p + 256 * q) &&& (y + 256 * r)) / 256 = q &&& r := by
    rw [Nat.and_div_two_pow (n := 8), show (p + 256 * q) / 2 ^ 8 = q by omega, show (y + 256 * r) / 2 ^ 8 = r by omega]
  have h2 : ((p + 256 * q) &&& (y + 256 * r)) % 256 = p &&& y := by
    rw [Nat.and_mod_two_pow (n := 8), show (p + 256 * q) % 2 ^ 8 = p by omega, show (y + 256 * r) % 2 ^ 8 = y by omega]
  have h3 := Nat.div_add_mod ((p + 256 * q) &&& (y + 256 * r)) 256
  omega
def sA (n x : Nat) : Nat := (x / 2 &&& rep 85 n) + (x &&& rep 85 n)
def sB (n x : Nat) : Nat := (x / 4 &&& rep 51 n) + (x &&& rep 51 n)
def sC (n x : Nat) : Nat := (x / 16 + x) &&& rep 15 n
def bA (p : Nat) : Nat := (p / 2 &&& 85) + (p &&& 85)
def bB (p : Nat) : Nat := (p / 4 &&& 51) + (p &&& 51)
theorem byteA : ∀ p, p < 256 → bA p < 256 ∧ (p / 2 + 128 &&& 85) = (p / 2 &&& 85) := by decide +kernel
theorem byteB : ∀ p, p < 256 → bB p < 256 ∧ (p / 4 + 64 &&& 51) = (p / 4 &&& 51) ∧ (p / 4 + 128 &&& 51) = (p / 4 &&& 51) ∧ (p / 4 + 192 &&& 51) = (p / 4 &&& 51) := by decide +kernel
theorem byteC : ∀ p, p < 256 → bB (bA p) / 16 + bB (bA p) % 16 = pc p ∧ bB (bA p) / 16 ≤ 4 ∧ bB (bA p) % 16 ≤ 4 := by decide +kernel
theorem pc_le : ∀ p, p < 256 → pc p ≤ 8 := by decide +kernel
theorem and15 (x : Nat) : x &&& 15 = x % 16 := Nat.and_two_pow_sub_one_eq_mod x 4
theorem sA_step (n p q : Nat) (hp : p < 256) : sA (n + 1) (p + 256 * q) = bA p + 256 * sA n q := by
  unfold sA bA
  have e : (p + 256 * q) / 2 = (p / 2 + 128 * (q % 2)) + 256 * (q / 2) := by omega
  rw [rep, e, and_byte _ _ _ _ (by omega) (by omega), and_byte _ _ _ _ hp (by omega)]
  have h : (p / 2 + 128 * (q % 2) &&& 85) = (p / 2 &&& 85) := by
    rcases Nat.mod_two_eq_zero_or_one q with c | c
    · rw [c, Nat.mul_zero, Nat.add_zero]
    · rw [c]; exact (byteA p hp).2
  rw [h]
  omega
theorem sB_step (n p q : Nat) (hp : p < 256) : sB (n + 1) (p + 256 * q) = bB p + 256 * sB n q := by
  unfold sB bB
  have e : (p + 256 * q) / 4 = (p / 4 + 64 * (q % 4)) + 256 * (q / 4) := by omega
  rw [rep, e, and_byte _ _ _ _ (by omega) (by omega), and_byte _ _ _ _ hp (by omega)]
  have h : (p / 4 + 64 * (q % 4) &&& 51) = (p / 4 &&& 51) := by
    have hb := byteB p hp
    have hc : q % 4 = 0 ∨ q % 4 = 1 ∨ q % 4 = 2 ∨ q % 4 = 3 := by omega
    rcases hc with c | c | c | c
    · rw [c, Nat.mul_zero, Nat.add_zero]
    · rw [c]; exact hb.2.1
    · rw [c]; exact hb.2.2.1
    · rw [c]; exact hb.2.2.2
  rw [h]
  omega
theorem sC_step (n p q : Nat) (h1 : p / 16 ≤ 4) (h2 : p % 16 ≤ 4) (h3 : q % 16 ≤ 4) : sC (n + 1) (p + 256 * q) = (p / 16 + p % 16) + 256 * sC n q := by
  unfold sC
  have e : (p + 256 * q) / 16 + (p + 256 * q) = (p / 16 + 16 * (q % 16) + p) + 256 * (q / 16 + q) := by omega
  rw [rep, e, and_byte _ _ _ _ (by omega) (by omega), and15]
  omega
/-- Four bytes, counted at once. -/
theorem swar (p0 p1 p2 p3 : Nat) (h0 : p0 < 256) (h1 : p1 < 256) (h2 : p2 < 256) (h3 : p3 < 256) :
    sC 8 (sB 8 (sA 8 (p0 + 256 * (p1 + 256 * (p2 + 256 * (p3 + 256 * 0)))))) = pc p0 + 256 * (pc p1 + 256 * (pc p2 + 256 * pc p3)) := by
  have z4 : sA 4 0 = 0 := by decide +kernel
  have y4 : sB 4 0 = 0 := by decide +kernel
  have x4 : sC 4 0 = 0 := by decide +kernel
  have c0 := byteC p0 h0
  have c1 := byteC p1 h1
  have c2 := byteC p2 h2
  have c3 := byteC p3 h3
  rw [sA_step 7 _ _ h0, sA_step 6 _ _ h1, sA_step 5 _ _ h2, sA_step 4 _ _ h3, z4]
  rw [sB_step 7 _ _ (byteA p0 h0).1, sB_step 6 _ _ (byteA p1 h1).1, sB_step 5 _ _ (byteA p2 h2).1, sB_step 4 _ _ (byteA p3 h3).1, y4]
  rw [sC_step 7 _ _ c0.2.1 c0.2.2 (by omega), sC_step 6 _ _ c1.2.1 c1.2.2 (by omega), sC_step 5 _ _ c2.2.1 c2.2.2 (by omega), sC_step 4 _ _ c3.2.1 c3.2.2 (by omega), x4, c0.1, c1.1, c2.1, c3.1]
  omega
def cA (x : Int) : Int := IntKind.u64.wrap (Go.bits .and .u64 (x / 2) 6148914691236517205 + Go.bits .and .u64 x 6148914691236517205)
def cB (y : Int) : Int := IntKind.u64.wrap (Go.bits .and .u64 (y / 4) 3689348814741910323 + Go.bits .and .u64 y 3689348814741910323)
def cC (z : Int) : Int := Go.bits .and .u64 (IntKind.u64.wrap (z / 16 + z)) 1085102592571150095
def cD (v : Int) : Int := IntKind.u64.wrap (v + v / 256)
def cE (v : Int) : Int := IntKind.u64.wrap (v + v / 65536)
def cF (v : Int) : Int := IntKind.u64.wrap (v + v / 4294967296)
theorem ones_is (x : Int) : bits_OnesCount64.f x = some (Go.bits .and .i64 (wrap64 (cF (cE (cD (cC (cB (cA x))))))) 127) := rfl
theorem and_le_mask (x y : Nat) : x &&& y ≤ y := Nat.and_le_right
theorem cA_is (n : Nat) (h : n < 18446744073709551616) : cA (n : Int) = ((sA 8 n : Nat) : Int) := by
  have hm : rep 85 8 = 6148914691236517205 := by decide +kernel
  have a1 := and_u64 (n / 2) 6148914691236517205 (by omega) (by omega)
  have a2 := and_u64 n 6148914691236517205 h (by omega)
  have b1 := and_le_mask (n / 2) 6148914691236517205
  have b2 := and_le_mask n 6148914691236517205
  unfold cA sA
  rw [hm, show (n : Int) / 2 = ((n / 2 : Nat) : Int) by omega, show (6148914691236517205 : Int) = ((6148914691236517205 : Nat) : Int) by omega, a1, a2, u64w _ (by omega) (by omega)]
  omega
theorem cB_is (n : Nat) (h : n < 18446744073709551616) : cB (n : Int) = ((sB 8 n : Nat) : Int) := by
  have hm : rep 51 8 = 3689348814741910323 := by decide +kernel
  have a1 := and_u64 (n / 4) 3689348814741910323 (by omega) (by omega)
  have a2 := and_u64 n 3689348814741910323 h (by omega)
  have b1 := and_le_mask (n / 4) 3689348814741910323
  have b2 := and_le_mask n 3689348814741910323
  unfold cB sB
  rw [hm, show (n : Int) / 4 = ((n / 4 : Nat) : Int) by omega, show (3689348814741910323 : Int) = ((3689348814741910323 : Nat) : Int) by omega, a1, a2, u64w _ (by omega) (by omega)]
  omega
theorem cC_is (n : Nat) (h : n < 9223372036854775808) : cC (n : Int) = ((sC 8 n : Nat) : Int) := by
  have hm : rep 15 8 = 1085102592571150095 := by decide +kernel
  have a1 := and_u64 (n / 16 + n) 1085102592571150095 (by omega) (by omega)
  unfold cC sC
  rw [hm, u64w _ (by omega) (by omega), show (n : Int) / 16 + (n : Int) = ((n / 16 + n : Nat) : Int) by omega, show (1085102592571150095 : Int) = ((1085102592571150095 : Nat) : Int) by omega, a1]
theorem sA_lt (n : Nat) : sA 8 n ≤ 12297829382473034410 := by
  have hm : rep 85 8 = 6148914691236517205 := by decide +kernel
  have b1 := and_le_mask (n / 2) (rep 85 8)
  have b2 := and_le_mask n (rep 85 8)
  unfold sA
  omega
theorem sB_lt (n : Nat) : sB 8 n ≤ 7378697629483820646 := by
  have hm : rep 51 8 = 3689348814741910323 := by decide +kernel
  have b1 := and_le_mask (n / 4) (rep 51 8)
  have b2 := and_le_mask n (rep 51 8)
  unfold sB
  omega
theorem sum_is (c0 c1 c2 c3 : Nat) (h0 : c0 ≤ 8) (h1 : c1 ≤ 8) (h2 : c2 ≤ 8) (h3 : c3 ≤ 8) :
    Go.bits .and .i64 (wrap64 (cF (cE (cD ((c0 + 256 * (c1 + 256 * (c2 + 256 * c3)) : Nat) : Int))))) 127 = ((c0 + c1 + c2 + c3 : Nat) : Int) := by
  have e1 : cD ((c0 + 256 * (c1 + 256 * (c2 + 256 * c3)) : Nat) : Int) = (((c0 + c1) + 256 * (c1 + c2) + 65536 * (c2 + c3) + 16777216 * c3 : Nat) : Int) := by
    unfold cD; rw [u64w _ (by omega) (by omega)]; omega
  have e2 : cE (((c0 + c1) + 256 * (c1 + c2) + 65536 * (c2 + c3) + 16777216 * c3 : Nat) : Int) = (((c0 + c1 + c2 + c3) + 256 * (c1 + c2 + c3) + 65536 * (c2 + c3) + 16777216 * c3 : Nat) : Int) := by
    unfold cE; rw [u64w _ (by omega) (by omega)]; omega
  have e3 : cF (((c0 + c1 + c2 + c3) + 256 * (c1 + c2 + c3) + 65536 * (c2 + c3) + 16777216 * c3 : Nat) : Int) = (((c0 + c1 + c2 + c3) + 256 * (c1 + c2 + c3) + 65536 * (c2 + c3) + 16777216 * c3 : Nat) : Int) := by
    unfold cF; rw [u64w _ (by omega) (by omega)]; omega
  rw [e1, e2, e3, wid (by omega) (by omega), show (127 : Int) = ((127 : Nat) : Int) by omega, and_i64 _ _ (by omega) (by omega), Nat.and_two_pow_sub_one_eq_mod _ 7]
  omega
/-- The program's parity. -/
theorem parity_is (n : Nat) (h : n < 4294967296) : impl_parity.f (n : Int) = some ((par 32 n : Nat) : Int) := by
  obtain ⟨p0, p1, p2, p3, h0, h1, h2, h3, e⟩ : ∃ p0 p1 p2 p3, p0 < 256 ∧ p1 < 256 ∧ p2 < 256 ∧ p3 < 256 ∧ n = p0 + 256 * (p1 + 256 * (p2 + 256 * (p3 + 256 * 0))) :=
    ⟨n % 256, n / 256 % 256, n / 65536 % 256, n / 16777216, by omega, by omega, by omega, by omega, by omega⟩
  have q0 := pc_le p0 h0
  have q1 := pc_le p1 h1
  have q2 := pc_le p2 h2
  have q3 := pc_le p3 h3
  have hs := swar p0 p1 p2 p3 h0 h1 h2 h3
  rw [← e] at hs
  unfold impl_parity.f
  rw [u64w _ (by omega) (by omega), ones_is, cA_is n (by omega), cB_is _ (by have := sA_lt n; omega), cC_is _ (by have := sB_lt (sA 8 n); omega), hs, sum_is _ _ _ _ q0 q1 q2 q3, Option.bind_some]
  rw [show (1 : Int) = ((1 : Nat) : Int) by omega, and_i64 _ _ (by omega) (by omega), Nat.and_two_pow_sub_one_eq_mod _ 1, e, par_byte 24 p0 _ h0, par_byte 16 p1 _ h1, par_byte 8 p2 _ h2, par_byte 0 p3 _ h3]
  have : par 0 0 = 0 := rfl
  congr 1
  omega
theorem impl_parOf (a b : Nat) : impl_ParityOf.f (a : Int) (b : Int) = if a ≤ 1000000000 ∧ b ≤ 1000000000 then some (((par 32 (a &&& b) : Nat) : Int), true) else some (0, false) := by
  unfold impl_ParityOf.f impl_inRange.f
  rw [if_pos (by omega), if_pos (by omega)]
  by_cases h1 : a ≤ 1000000000
  · by_cases h2 : b ≤ 1000000000
    · have := and_le_mask a b
      rw [if_pos ⟨h1, h2⟩, decide_eq_true (by omega), decide_eq_true (by omega), Option.bind_some, if_pos rfl, Option.bind_some, if_pos rfl, and_i64 _ _ (by omega) (by omega), parity_is _ (by omega), Option.bind_some]
    · rw [if_neg (by omega), decide_eq_true (by omega), decide_eq_false (by omega), Option.bind_some, if_pos rfl, Option.bind_some, if_neg (by decide)]
  · rw [if_neg (by omega), decide_eq_false (by omega), Option.bind_some, if_neg (by decide)]

def longOf (l0 l1 : List Int) : Bool := decide ((l0.length : Int) > 1048576 ∨ (l1.length : Int) > 1048576)
theorem b10Long_is (l0 l1 : List Int) : laws_b10Long.f l0 l1 = some (longOf l0 l1) := by
  unfold laws_b10Long.f longOf
  by_cases h : (l0.length : Int) > 1048576
  · rw [if_pos h, decide_eq_true (Or.inl h)]
  · rw [if_neg h]
    by_cases g : (l1.length : Int) > 1048576
    · rw [decide_eq_true g, decide_eq_true (Or.inr g)]
    · rw [decide_eq_false g, decide_eq_false (by omega)]
theorem u8_bd {x : Int} (h : (Lit.int .u8 x).wf = true) : 0 ≤ x ∧ x ≤ 255 := by
  simp [Lit.wf, IntKind.min, IntKind.max, IntKind.signed, IntKind.bits] at h
  exact h
theorem rd_in (xs : List Int) (i : Int) (h0 : 0 ≤ i) (h1 : i < (xs.length : Int)) : rd xs i ∈ xs := by
  unfold rd
  rw [List.getD_eq_getElem?_getD, List.getElem?_eq_getElem (by omega)]
  exact List.getElem_mem _
/-- A number from 0 to n - 1. -/
theorem b10At_is (l : List Int) (u : ∀ x ∈ l, (Lit.int .u8 x).wf = true) (b : l.length * 1 ≤ 140737488351232) (i n : Int) (h0 : 0 ≤ i) (h1 : i ≤ 1000) (hn : 2 ≤ n) :
    ∃ t, laws_b10At.f l i n = some t ∧ 0 ≤ t ∧ t < n := by
  unfold laws_b10At.f
  rw [if_neg (by omega)]
  by_cases h : i < (l.length : Int)
  · have hb := u8_bd (u _ (rd_in l i h0 h))
    refine ⟨rd l i % n, ?_, Int.emod_nonneg _ (by omega), Int.emod_lt_of_pos _ (by omega)⟩
    rw [if_pos h, if_pos h0, if_neg (by omega), wid (by omega) (by omega), Int.tmod_eq_emod_of_nonneg hb.1]
  · refine ⟨(i * 37 + 11) % n, ?_, Int.emod_nonneg _ (by omega), Int.emod_lt_of_pos _ (by omega)⟩
    rw [if_neg h, if_neg (by omega), wid (x := i * 37) (by omega) (by omega), wid (by omega) (by omega), Int.tmod_eq_emod_of_nonneg (by omega)]

theorem FnParity : laws_FnParity.Pure := by
  intro l0 l1 _ b0 u0 _ b1 u1
  unfold laws_FnParity.f
  rw [b10Long_is l0 l1, Option.bind_some]
  by_cases hg : longOf l0 l1 = true
  · rw [if_pos hg]
  rw [if_neg hg]
  obtain ⟨t0, e0, p0, q0⟩ := b10At_is l0 u0 b0 0 256 (by omega) (by omega) (by omega)
  obtain ⟨t1, e1, p1, q1⟩ := b10At_is l0 u0 b0 1 256 (by omega) (by omega) (by omega)
  obtain ⟨t2, e2, p2, q2⟩ := b10At_is l0 u0 b0 2 256 (by omega) (by omega) (by omega)
  obtain ⟨t3, e3, p3, q3⟩ := b10At_is l0 u0 b0 3 256 (by omega) (by omega) (by omega)
  obtain ⟨t4, e4, p4, q4⟩ := b10At_is l1 u1 b1 0 256 (by omega) (by omega) (by omega)
  obtain ⟨t5, e5, p5, q5⟩ := b10At_is l1 u1 b1 1 256 (by omega) (by omega) (by omega)
  simp only [e0, e1, e2, e3, e4, e5, Option.bind_some]
  have w : ∀ x y : Int, 0 ≤ x → x < 256 → 0 ≤ y → y < 256 → wrap64 ((wrap64 (256 * x)) + y) = 256 * x + y := by
    intro x y h1 h2 h3 h4
    rw [wid (x := 256 * x) (by omega) (by omega), wid (by omega) (by omega)]
  rw [w t0 t1 p0 q0 p1 q1, w t2 t3 p2 q2 p3 q3, w t4 t5 p4 q4 p5 q5]
  obtain ⟨a, ha⟩ := Int.eq_ofNat_of_zero_le (show 0 ≤ 256 * t0 + t1 by omega)
  obtain ⟨b, hb⟩ := Int.eq_ofNat_of_zero_le (show 0 ≤ 256 * t2 + t3 by omega)
  obtain ⟨m, hm⟩ := Int.eq_ofNat_of_zero_le (show 0 ≤ 256 * t4 + t5 by omega)
  rw [ha, hb, hm]
  have ha2 : a < 65536 := by omega
  have hb2 : b < 65536 := by omega
  have hm2 : m < 65536 := by omega
  have hx : a ^^^ b < 65536 := Nat.xor_lt_two_pow (n := 16) ha2 hb2
  rw [xor_i64 a b (by omega) (by omega), impl_parOf, impl_parOf, impl_parOf, if_pos (by omega), if_pos (by omega), if_pos (by omega), Option.bind_some, Option.bind_some, Option.bind_some]
  have r1 := par_le 32 (a &&& m)
  have r2 := par_le 32 (b &&& m)
  have hd : par 32 ((a ^^^ b) &&& m) = par 32 (a &&& m) ^^^ par 32 (b &&& m) := by
    rw [Nat.and_xor_distrib_right, par_xor]
    have c1 : par 32 (a &&& m) = 0 ∨ par 32 (a &&& m) = 1 := by omega
    have c2 : par 32 (b &&& m) = 0 ∨ par 32 (b &&& m) = 1 := by omega
    rcases c1 with c1 | c1 <;> rcases c2 with c2 | c2 <;> rw [c1, c2] <;> rfl
  rw [if_pos rfl, if_pos rfl, if_pos rfl, xor_i64 _ _ (by omega) (by omega), hd, if_pos rfl, if_pos (by omega), if_pos (by omega), if_pos (by omega), decide_eq_true (by omega)]

end Go.Proofs.Yteeigkopaglcnaa.Pure
