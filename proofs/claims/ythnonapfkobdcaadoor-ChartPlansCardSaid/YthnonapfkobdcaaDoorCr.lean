/- The checksum of 24 bits, in plain numbers: by four bits at once, and bit by bit. -/
import Derived.WalkKit
namespace Go.Proofs.YthnonapfkobdcaaDoor.Cr
open Go.RowKit
set_option linter.unusedVariables false
set_option linter.unusedSimpArgs false

/-- A bit is shifted out. -/
def st (n : Nat) : Nat := if 2 * n < 16777216 then 2 * n else (2 * n) ^^^ 25578747
def st4 (n : Nat) : Nat := st (st (st (st n)))
/-- Four bits at once, by the table. -/
def nib (n : Nat) : Nat := ((n * 16) % 16777216) ^^^ st4 (n / 1048576 * 1048576)
/-- A byte goes in. -/
def byt (n c : Nat) : Nat := st4 (st4 (n ^^^ (c * 65536)))
def sumN (l : List Nat) : Nat := l.foldl byt 11994318

theorem xor_lt {a b : Nat} (ha : a < 16777216) (hb : b < 16777216) : a ^^^ b < 16777216 := Nat.xor_lt_two_pow (n := 24) ha hb
theorem st_lt {n : Nat} (h : n < 16777216) : st n < 16777216 := by
  unfold st
  split
  · assumption
  · have h1 : (2 * n) ^^^ 25578747 = (2 * n - 16777216) ^^^ 8801531 := by
      have e1 : 2 * n = 16777216 ^^^ (2 * n - 16777216) := by
        have h2 : 2 * n - 16777216 < 2 ^ 24 := by omega
        have := Nat.two_pow_add_eq_or_of_lt h2 1
        apply Nat.eq_of_testBit_eq
        intro j
        rw [Nat.testBit_xor]
        have e2 : 2 * n = 2 ^ 24 * 1 + (2 * n - 16777216) := by omega
        rw [e2, Nat.testBit_two_pow_mul_add 1 h2 j]
        have e3 : 2 ^ 24 * 1 + (2 * n - 16777216) - 16777216 = 2 * n - 16777216 := by omega
        rw [e3]
        have e4 : (16777216 : Nat).testBit j = decide (24 = j) := by rw [show (16777216 : Nat) = 2 ^ 24 by decide, Nat.testBit_two_pow]
        rw [e4]
        split
        · next hj => simp [show ¬ 24 = j by omega]
        · next hj =>
          have e5 : (2 * n - 16777216).testBit j = false := Nat.testBit_lt_two_pow (Nat.lt_of_lt_of_le h2 (Nat.pow_le_pow_right (by decide) (by omega)))
          rw [e5]
          by_cases e : 24 = j
          · subst e; simp
          · have : (1 : Nat).testBit (j - 24) = false := Nat.testBit_lt_two_pow (Nat.one_lt_two_pow (by omega))
            rw [this]; simp [e]
      have e6 : (25578747 : Nat) = 16777216 ^^^ 8801531 := by decide
      rw [e6]
      conv => lhs; rw [e1]
      rw [Nat.xor_assoc, ← Nat.xor_assoc (2 * n - 16777216) 16777216, Nat.xor_comm (2 * n - 16777216) 16777216, Nat.xor_assoc, ← Nat.xor_assoc, Nat.xor_self, Nat.zero_xor]
    rw [h1]
    exact xor_lt (by omega) (by decide)
theorem st4_lt {n : Nat} (h : n < 16777216) : st4 n < 16777216 := st_lt (st_lt (st_lt (st_lt h)))
theorem top_bit {n : Nat} (h : n < 16777216) : n.testBit 23 = decide (¬ 2 * n < 16777216) := by
  rw [Nat.testBit_eq_decide_div_mod_eq]
  by_cases h1 : 2 * n < 16777216
  · have : n / 2 ^ 23 = 0 := Nat.div_eq_of_lt (by omega)
    rw [this]; simp [h1]
  · have : n / 2 ^ 23 = 1 := by omega
    rw [this]; simp [h1]
theorem st_bits {n : Nat} (h : n < 16777216) : st n = (2 * n) ^^^ (if n.testBit 23 then 25578747 else 0) := by
  unfold st
  rw [top_bit h]
  by_cases h1 : 2 * n < 16777216
  · simp [h1]
  · simp [h1]
theorem dbl_xor (a b : Nat) : 2 * (a ^^^ b) = (2 * a) ^^^ (2 * b) := by
  have := Nat.shiftLeft_xor_distrib (i := 1) (a := a) (b := b)
  rw [Nat.shiftLeft_eq, Nat.shiftLeft_eq, Nat.shiftLeft_eq] at this
  simpa [Nat.mul_comm] using this
theorem st_xor {a b : Nat} (ha : a < 16777216) (hb : b < 16777216) : st (a ^^^ b) = st a ^^^ st b := by
  rw [st_bits (xor_lt ha hb), st_bits ha, st_bits hb, Nat.testBit_xor, dbl_xor]
  generalize 2 * a = x
  generalize 2 * b = y
  cases a.testBit 23 <;> cases b.testBit 23 <;> simp
  · rw [Nat.xor_assoc]
  · rw [Nat.xor_assoc, Nat.xor_comm y, Nat.xor_assoc]
  · rw [Nat.xor_assoc, Nat.xor_comm 25578747, Nat.xor_assoc, Nat.xor_self, Nat.xor_zero]
theorem st4_xor {a b : Nat} (ha : a < 16777216) (hb : b < 16777216) : st4 (a ^^^ b) = st4 a ^^^ st4 b := by
  unfold st4
  rw [st_xor ha hb, st_xor (st_lt ha) (st_lt hb), st_xor (st_lt (st_lt ha)) (st_lt (st_lt hb)), st_xor (st_lt (st_lt (st_lt ha))) (st_lt (st_lt (st_lt hb)))]
theorem st4_low {n : Nat} (h : n < 1048576) : st4 n = 16 * n := by
  unfold st4
  rw [show st n = 2 * n by unfold st; rw [if_pos (by omega)]]
  rw [show st (2 * n) = 4 * n by unfold st; rw [if_pos (by omega)]; omega]
  rw [show st (4 * n) = 8 * n by unfold st; rw [if_pos (by omega)]; omega]
  rw [show st (8 * n) = 16 * n by unfold st; rw [if_pos (by omega)]; omega]
theorem split_xor (n : Nat) : n / 1048576 * 1048576 ^^^ n % 1048576 = n := by
  have h2 : n % 1048576 < 2 ^ 20 := by omega
  apply Nat.eq_of_testBit_eq
  intro j
  rw [Nat.testBit_xor]
  have e0 : n = 2 ^ 20 * (n / 1048576) + n % 1048576 := by omega
  have e1 : n.testBit j = if j < 20 then (n % 1048576).testBit j else (n / 1048576).testBit (j - 20) := by
    conv => lhs; rw [e0]
    exact Nat.testBit_two_pow_mul_add _ h2 j
  have e2 : (n / 1048576 * 1048576).testBit j = (decide (j ≥ 20) && (n / 1048576).testBit (j - 20)) := by
    rw [show n / 1048576 * 1048576 = 2 ^ 20 * (n / 1048576) by omega]
    exact Nat.testBit_two_pow_mul
  rw [e1, e2]
  split
  · next hj => simp [show ¬ 20 ≤ j by omega]
  · next hj =>
    have e5 : (n % 1048576).testBit j = false := Nat.testBit_lt_two_pow (Nat.lt_of_lt_of_le h2 (Nat.pow_le_pow_right (by decide) (by omega)))
    rw [e5]; simp [show 20 ≤ j by omega]
theorem nib_eq {n : Nat} (h : n < 16777216) : nib n = st4 n := by
  have h1 : n / 1048576 * 1048576 < 16777216 := by omega
  have h2 : n % 1048576 < 1048576 := Nat.mod_lt _ (by decide)
  have : st4 n = st4 (n / 1048576 * 1048576) ^^^ st4 (n % 1048576) := by
    rw [← st4_xor h1 (by omega), split_xor]
  rw [this, st4_low h2]
  unfold nib
  rw [Nat.xor_comm, show n * 16 % 16777216 = 16 * (n % 1048576) by omega]
theorem byt_lt {n c : Nat} (h : n < 16777216) (hc : c < 256) : byt n c < 16777216 := st4_lt (st4_lt (xor_lt h (by omega)))
theorem sumN_lt (l : List Nat) (h : ∀ c ∈ l, c < 256) : ∀ n, n < 16777216 → l.foldl byt n < 16777216 := by
  induction l with
  | nil => intro n hn; exact hn
  | cons c l ih =>
    intro n hn
    have hb : byt n c < 16777216 := byt_lt hn (h c List.mem_cons_self)
    rw [List.foldl_cons]
    exact ih (fun x hx => h x (List.mem_cons_of_mem _ hx)) (byt n c) hb

theorem bits_nat (op : BinOp) (f : Nat → Nat → Nat) (hf : ∀ a b : Nat, a < 2 ^ 60 → b < 2 ^ 60 → f a b < 2 ^ 60) (hb : ∀ a b : Int, bits op .i64 a b = IntKind.i64.wrap ((f ((BitVec.ofInt 64 a).toNat) ((BitVec.ofInt 64 b).toNat) : Nat) : Int)) (a b : Nat) (h1 : a < 2 ^ 60) (h2 : b < 2 ^ 60) : bits op .i64 (a : Int) (b : Int) = ((f a b : Nat) : Int) := by
  rw [hb]
  have e1 : (BitVec.ofInt 64 (a : Int)).toNat = a := by rw [BitVec.toNat_ofInt]; omega
  have e2 : (BitVec.ofInt 64 (b : Int)).toNat = b := by rw [BitVec.toNat_ofInt]; omega
  rw [e1, e2]
  have := hf a b h1 h2
  rw [IntKind.wrap_i64]
  omega
theorem xor_nat (a b : Nat) (h1 : a < 2 ^ 60) (h2 : b < 2 ^ 60) : bits .xor .i64 (a : Int) (b : Int) = ((a ^^^ b : Nat) : Int) :=
  bits_nat .xor (· ^^^ ·) (fun a b h1 h2 => Nat.xor_lt_two_pow h1 h2) (fun a b => by show IntKind.i64.wrap ((BitVec.ofInt 64 a ^^^ BitVec.ofInt 64 b).toNat : Nat) = _; rw [BitVec.toNat_xor]) a b h1 h2
theorem and_nat (a b : Nat) (h1 : a < 2 ^ 60) (h2 : b < 2 ^ 60) : bits .and .i64 (a : Int) (b : Int) = ((a &&& b : Nat) : Int) :=
  bits_nat .and (· &&& ·) (fun a b h1 h2 => Nat.and_lt_two_pow a h2) (fun a b => by show IntKind.i64.wrap ((BitVec.ofInt 64 a &&& BitVec.ofInt 64 b).toNat : Nat) = _; rw [BitVec.toNat_and]) a b h1 h2
theorem and_all (a : Nat) (h1 : a < 2 ^ 60) : bits .and .i64 (a : Int) 16777215 = ((a % 16777216 : Nat) : Int) := by
  have := and_nat a 16777215 h1 (by decide)
  rw [show ((16777215 : Nat) : Int) = 16777215 from rfl] at this
  rw [this, show (16777215 : Nat) = 2 ^ 24 - 1 by decide, Nat.and_two_pow_sub_one_eq_mod]
theorem xor_poly (a : Nat) (h1 : a < 2 ^ 60) : bits .xor .i64 (a : Int) 8801531 = ((a ^^^ 8801531 : Nat) : Int) := xor_nat a 8801531 h1 (by decide)
theorem xor_poly2 (a : Nat) (h1 : a < 2 ^ 60) : bits .xor .i64 (a : Int) 25578747 = ((a ^^^ 25578747 : Nat) : Int) := xor_nat a 25578747 h1 (by decide)
/-- The way by the program: a shift, the bit that left, the polynomial. -/
theorem st_prog {n : Nat} (h : n < 16777216) (h1 : ¬ 2 * n < 16777216) : ((2 * n) % 16777216) ^^^ 8801531 = st n := by
  unfold st
  rw [if_neg h1]
  have e6 : (25578747 : Nat) = 16777216 ^^^ 8801531 := by decide
  have e7 : 2 * n ^^^ 16777216 = (2 * n) % 16777216 := by
    have h2 : (2 * n) % 16777216 < 2 ^ 24 := by omega
    apply Nat.eq_of_testBit_eq
    intro j
    rw [Nat.testBit_xor]
    have e0 : 2 * n = 2 ^ 24 * 1 + (2 * n) % 16777216 := by omega
    have e1 : (2 * n).testBit j = if j < 24 then ((2 * n) % 16777216).testBit j else (1 : Nat).testBit (j - 24) := by
      conv => lhs; rw [e0]
      exact Nat.testBit_two_pow_mul_add _ h2 j
    have e4 : (16777216 : Nat).testBit j = decide (24 = j) := by rw [show (16777216 : Nat) = 2 ^ 24 by decide, Nat.testBit_two_pow]
    rw [e1, e4]
    split
    · next hj => simp [show ¬ 24 = j by omega]
    · next hj =>
      have e5 : ((2 * n) % 16777216).testBit j = false := Nat.testBit_lt_two_pow (Nat.lt_of_lt_of_le h2 (Nat.pow_le_pow_right (by decide) (by omega)))
      rw [e5]
      by_cases e : 24 = j
      · subst e; simp
      · have : (1 : Nat).testBit (j - 24) = false := Nat.testBit_lt_two_pow (Nat.one_lt_two_pow (by omega))
        rw [this]; simp [e]
  rw [← e7, e6, Nat.xor_assoc]
end Go.Proofs.YthnonapfkobdcaaDoor.Cr
