/- Plain law of layer 3 (crc). No program in sight. -/
import Derived.Test.YthmopkaecbebpaaBase
namespace Go.Peri
namespace Crc
def turn : Nat := 3988292384
/-- A bit falls out of a sum. -/
def shift (n : Nat) : Nat := if n % 2 = 1 then (n >>> 1) ^^^ turn else n >>> 1
def shifts : Nat → Nat → Nat
  | 0, n => n
  | k + 1, n => shift (shifts k n)
def step (n : Nat) : Nat := shifts 8 n
def bit (n : Nat) : Nat := if n % 2 = 1 then turn else 0
theorem shift_eq (n : Nat) : shift n = (n >>> 1) ^^^ bit n := by
  unfold shift bit
  split <;> simp
theorem bit_xor (a b : Nat) : bit (a ^^^ b) = bit a ^^^ bit b := by
  have h : (a ^^^ b) % 2 = (a % 2 + b % 2) % 2 := by
    have := Nat.testBit_xor a b 0
    simp only [Nat.testBit_zero] at this
    have h1 := Nat.mod_two_eq_zero_or_one a
    have h2 := Nat.mod_two_eq_zero_or_one b
    have h3 := Nat.mod_two_eq_zero_or_one (a ^^^ b)
    rcases h1 with h1 | h1 <;> rcases h2 with h2 | h2 <;> rcases h3 with h3 | h3 <;> simp [h1, h2, h3] at this ⊢
  unfold bit
  rcases Nat.mod_two_eq_zero_or_one a with h1 | h1 <;> rcases Nat.mod_two_eq_zero_or_one b with h2 | h2 <;> simp [h, h1, h2]
theorem shift_xor (a b : Nat) : shift (a ^^^ b) = shift a ^^^ shift b := by
  rw [shift_eq, shift_eq, shift_eq, bit_xor, Nat.shiftRight_xor_distrib]
  simp only [Nat.xor_assoc]
  congr 1
  rw [← Nat.xor_assoc, ← Nat.xor_assoc, Nat.xor_comm (bit a)]
theorem shifts_xor (a b : Nat) : ∀ k, shifts k (a ^^^ b) = shifts k a ^^^ shifts k b
  | 0 => rfl
  | k + 1 => by show shift (shifts k _) = _; rw [shifts_xor a b k, shift_xor]; rfl
theorem step_xor (a b : Nat) : step (a ^^^ b) = step a ^^^ step b := shifts_xor a b 8
theorem shift_lt {n : Nat} (h : n < 4294967296) : shift n < 4294967296 := by
  unfold shift
  have h1 : n >>> 1 < 2 ^ 32 := by rw [Nat.shiftRight_eq_div_pow]; omega
  split
  · exact Nat.xor_lt_two_pow h1 (by decide)
  · exact h1
theorem shifts_lt {n : Nat} (h : n < 4294967296) : ∀ k, shifts k n < 4294967296
  | 0 => h
  | k + 1 => shift_lt (shifts_lt h k)
theorem step_lt {n : Nat} (h : n < 4294967296) : step n < 4294967296 := shifts_lt h 8
/-- Bits that fall out as zeros turn nothing. -/
theorem shifts_high (n : Nat) : ∀ k j, k ≤ j → shifts k (n * 2 ^ j) = n * 2 ^ (j - k)
  | 0, j, _ => by simp [shifts]
  | k + 1, j, h => by
    show shift (shifts k _) = _
    rw [shifts_high n k j (by omega)]
    have e : n * 2 ^ (j - k) = 2 * (n * 2 ^ (j - (k + 1))) := by
      rw [show j - k = (j - (k + 1)) + 1 by omega, Nat.pow_succ]
      rw [Nat.mul_comm (2 ^ _) 2, ← Nat.mul_assoc, Nat.mul_comm n 2, Nat.mul_assoc]
    rw [e]
    generalize n * 2 ^ (j - (k + 1)) = m
    unfold shift
    rw [if_neg (by omega), Nat.shiftRight_eq_div_pow]
    omega
theorem low_high (n : Nat) : n = (n / 256 * 256) ^^^ (n % 256) := by
  have h : n / 256 * 256 + n % 256 = n := by have := Nat.div_add_mod n 256; omega
  have e : (n / 256 * 256) ^^^ (n % 256) = n / 256 * 256 + n % 256 := by
    apply Nat.eq_of_testBit_eq
    intro i
    have hm : n % 256 < 2 ^ 8 := Nat.mod_lt _ (by decide)
    rw [Nat.testBit_xor]
    have e1 : n / 256 * 256 = 2 ^ 8 * (n / 256) := Nat.mul_comm _ _
    rw [e1, Nat.testBit_two_pow_mul_add _ hm, Nat.testBit_two_pow_mul]
    by_cases hi : i < 8
    · have : ¬ 8 ≤ i := by omega
      simp [hi, this]
    · have h8 : 8 ≤ i := by omega
      simp only [hi, if_false, h8, decide_true, Bool.true_and]
      rw [Nat.testBit_lt_two_pow (Nat.lt_of_lt_of_le hm (Nat.pow_le_pow_right (by decide) h8)), Bool.xor_false]
  rw [e, h]
/-- A table's step. -/
theorem step_table (sum b : Nat) : step (sum ^^^ b) = (sum >>> 8) ^^^ step ((sum % 256) ^^^ b) := by
  conv => lhs; rw [low_high sum]
  rw [Nat.xor_assoc, step_xor]
  congr 1
  have := shifts_high (sum / 256) 8 8 (Nat.le_refl _)
  unfold step
  rw [show sum / 256 * 256 = sum / 256 * 2 ^ 8 from rfl, this, Nat.shiftRight_eq_div_pow]
  simp
theorem shift_inj {a b : Nat} (ha : a < 4294967296) (hb : b < 4294967296) (h : shift a = shift b) : a = b := by
  have t31 : ∀ n, n < 4294967296 → (shift n).testBit 31 = decide (n % 2 = 1) := by
    intro n hn
    rw [shift_eq, Nat.testBit_xor]
    have h1 : (n >>> 1).testBit 31 = false := Nat.testBit_lt_two_pow (by rw [Nat.shiftRight_eq_div_pow]; omega)
    rw [h1, Bool.false_xor]
    unfold bit
    rcases Nat.mod_two_eq_zero_or_one n with h2 | h2
    · rw [h2]; rfl
    · rw [h2]; rfl
  have e : a % 2 = b % 2 := by
    have e2 := t31 a ha
    rw [h, t31 b hb] at e2
    rcases Nat.mod_two_eq_zero_or_one a with h1 | h1 <;> rcases Nat.mod_two_eq_zero_or_one b with h2 | h2 <;> simp [h1, h2] at e2 ⊢
  have eb : bit a = bit b := by unfold bit; rw [e]
  rw [shift_eq, shift_eq, eb] at h
  have h3 : a >>> 1 = b >>> 1 := by
    have := congrArg (fun x => x ^^^ bit b) h
    simpa [Nat.xor_assoc] using this
  rw [Nat.shiftRight_eq_div_pow, Nat.shiftRight_eq_div_pow] at h3
  omega
theorem shifts_inj {a b : Nat} (ha : a < 4294967296) (hb : b < 4294967296) : ∀ k, shifts k a = shifts k b → a = b
  | 0, h => h
  | k + 1, h => shifts_inj ha hb k (shift_inj (shifts_lt ha k) (shifts_lt hb k) h)
theorem step_inj {a b : Nat} (ha : a < 4294967296) (hb : b < 4294967296) (h : step a = step b) : a = b := shifts_inj ha hb 8 h
def fold (sum : Nat) (l : List UInt8) : Nat := l.foldl (fun n b => step (n ^^^ b.toNat)) sum
theorem fold_snoc (sum : Nat) (l : List UInt8) (b : UInt8) : fold sum (l ++ [b]) = step (fold sum l ^^^ b.toNat) := by
  unfold fold
  rw [List.foldl_append]
  rfl
theorem fold_append (sum : Nat) (l m : List UInt8) : fold sum (l ++ m) = fold (fold sum l) m := List.foldl_append ..
theorem xor_byte_lt {n : Nat} (h : n < 4294967296) (b : UInt8) : n ^^^ b.toNat < 4294967296 := Nat.xor_lt_two_pow (n := 32) h (by have := b.toNat_lt; omega)
theorem fold_lt {sum : Nat} (h : sum < 4294967296) : ∀ l : List UInt8, fold sum l < 4294967296 := by
  intro l
  induction l generalizing sum with
  | nil => exact h
  | cons b l ih => exact ih (step_lt (xor_byte_lt h b))
theorem xor_cancel {a b c : Nat} (h : a ^^^ c = b ^^^ c) : a = b := by
  have := congrArg (fun x => x ^^^ c) h
  simpa [Nat.xor_assoc] using this
theorem fold_inj {a b : Nat} (ha : a < 4294967296) (hb : b < 4294967296) (l : List UInt8) (h : fold a l = fold b l) : a = b := by
  induction l generalizing a b with
  | nil => exact h
  | cons x l ih =>
    have := ih (step_lt (xor_byte_lt ha x)) (step_lt (xor_byte_lt hb x)) h
    exact xor_cancel (step_inj (xor_byte_lt ha x) (xor_byte_lt hb x) this)
/-- One byte that is another one is told. -/
theorem fold_tells {sum : Nat} (h : sum < 4294967296) (l m : List UInt8) {x y : UInt8} (hxy : x ≠ y) : fold sum (l ++ x :: m) ≠ fold sum (l ++ y :: m) := by
  intro e
  rw [fold_append, fold_append] at e
  have hl := fold_lt h l
  have := fold_inj (step_lt (xor_byte_lt hl x)) (step_lt (xor_byte_lt hl y)) m e
  have h2 := step_inj (xor_byte_lt hl x) (xor_byte_lt hl y) this
  rw [Nat.xor_comm _ x.toNat, Nat.xor_comm _ y.toNat] at h2
  exact hxy (UInt8.toNat_inj.1 (xor_cancel h2))
def sum (l : List UInt8) : Nat := 4294967295 - fold 4294967295 l
theorem sum_lt (l : List UInt8) : sum l < 4294967296 := by unfold sum; omega
/-- The document's way: a bit comes in as one falls out. -/
def inBit (n b k : Nat) : Nat := if n % 2 ≠ (b >>> k) % 2 then (n / 2) ^^^ turn else n / 2
def inBits (n b : Nat) : Nat → Nat
  | 0 => n
  | k + 1 => inBit (inBits n b k) b k
theorem inBits_eq (n b : Nat) : ∀ k, shifts k (n ^^^ b) = inBits n b k ^^^ (b >>> k)
  | 0 => by simp [shifts, inBits]
  | k + 1 => by
    show shift (shifts k _) = inBit (inBits n b k) b k ^^^ _
    rw [inBits_eq n b k]
    generalize inBits n b k = m
    rw [shift_eq, Nat.shiftRight_xor_distrib, ← Nat.shiftRight_add]
    have hb : bit (m ^^^ b >>> k) = if m % 2 ≠ (b >>> k) % 2 then turn else 0 := by
      rw [bit_xor]
      unfold bit
      rcases Nat.mod_two_eq_zero_or_one m with h1 | h1 <;> rcases Nat.mod_two_eq_zero_or_one (b >>> k) with h2 | h2 <;> simp [h1, h2]
    rw [hb]
    unfold inBit
    have e : m >>> 1 = m / 2 := by rw [Nat.shiftRight_eq_div_pow]
    split
    · rw [e]
      simp only [Nat.xor_assoc]
      rw [Nat.xor_comm turn]
    · rw [e]
      simp
theorem inBits_step (n : Nat) (b : UInt8) : inBits n b.toNat 8 = step (n ^^^ b.toNat) := by
  have := inBits_eq n b.toNat 8
  have h0 : b.toNat >>> 8 = 0 := by rw [Nat.shiftRight_eq_div_pow]; have := b.toNat_lt; omega
  rw [h0, Nat.xor_zero] at this
  exact this.symm
end Crc
end Go.Peri
