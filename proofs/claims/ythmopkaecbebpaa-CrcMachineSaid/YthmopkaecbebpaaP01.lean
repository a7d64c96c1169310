/- Plain laws on the digits of a number: no program in sight. -/
namespace Go.Peri.Oct

/-- The last digits of a number to the base b, the highest first. -/
def dg (b n : Nat) : Nat → List Nat
  | 0 => []
  | i + 1 => (n / b ^ i % b) :: dg b n i
/-- The number of digits. -/
def val (b : Nat) (l : List Nat) : Nat := l.foldl (fun a d => a * b + d) 0

theorem dg_length (b n : Nat) : ∀ i, (dg b n i).length = i
  | 0 => rfl
  | i + 1 => by simp [dg, dg_length b n i]
theorem dg_lt (b n : Nat) (hb : 0 < b) : ∀ i, ∀ d ∈ dg b n i, d < b
  | 0, d, h => by simp [dg] at h
  | i + 1, d, h => by
    simp only [dg, List.mem_cons] at h
    rcases h with rfl | h
    · exact Nat.mod_lt _ hb
    · exact dg_lt b n hb i d h

theorem val_snoc (b : Nat) (l : List Nat) (d : Nat) : val b (l ++ [d]) = val b l * b + d := by simp [val]
theorem foldl_start (b : Nat) (l : List Nat) : ∀ a, l.foldl (fun a d => a * b + d) a = a * b ^ l.length + val b l := by
  induction l with
  | nil => intro a; simp [val]
  | cons d l ih =>
    intro a
    show l.foldl _ (a * b + d) = _
    have e : val b (d :: l) = l.foldl (fun a d => a * b + d) (0 * b + d) := rfl
    rw [ih, e, ih, List.length_cons, Nat.pow_succ]
    rw [Nat.zero_mul, Nat.zero_add, Nat.add_mul, Nat.mul_assoc, Nat.mul_comm b]
    omega
theorem val_cons (b d : Nat) (l : List Nat) : val b (d :: l) = d * b ^ l.length + val b l := by
  have e : val b (d :: l) = l.foldl (fun a d => a * b + d) (0 * b + d) := rfl
  rw [e, foldl_start]; simp
theorem val_lt (b : Nat) : ∀ l : List Nat, (∀ d ∈ l, d < b) → val b l < b ^ l.length
  | [], _ => by simp [val]
  | d :: l, h => by
    have h1 := val_lt b l (fun x hx => h x (by simp [hx]))
    have h2 := h d (by simp)
    rw [val_cons, List.length_cons, Nat.pow_succ]
    calc d * b ^ l.length + val b l < d * b ^ l.length + b ^ l.length := by omega
      _ = (d + 1) * b ^ l.length := by rw [Nat.add_mul, Nat.one_mul]
      _ ≤ b * b ^ l.length := Nat.mul_le_mul_right _ h2
      _ = b ^ l.length * b := Nat.mul_comm _ _
/-- Digits give the number back. -/
theorem val_dg (b n : Nat) (hb : 0 < b) : ∀ i, val b (dg b n i) = n % b ^ i
  | 0 => by simp [dg, val, Nat.mod_one]
  | i + 1 => by
    have e : dg b n (i + 1) = (n / b ^ i % b) :: dg b n i := rfl
    rw [e, val_cons, dg_length, val_dg b n hb i, Nat.pow_succ, Nat.mod_mul]
    rw [Nat.mul_comm]; omega
/-- The number's digits are the digits. -/
theorem dg_val (b : Nat) (hb : 0 < b) : ∀ l : List Nat, (∀ d ∈ l, d < b) → ∀ m, dg b (m * b ^ l.length + val b l) l.length = l
  | [], _, m => rfl
  | d :: l, h, m => by
    have hl := val_lt b l (fun x hx => h x (by simp [hx]))
    have h2 := h d (by simp)
    have hpos : 0 < b ^ l.length := Nat.pow_pos hb
    rw [List.length_cons, val_cons]
    have e : m * b ^ (l.length + 1) + (d * b ^ l.length + val b l) = (m * b + d) * b ^ l.length + val b l := by
      rw [Nat.pow_succ, Nat.add_mul, Nat.mul_assoc, Nat.mul_comm b, Nat.add_assoc]
    rw [e]
    have e2 : dg b ((m * b + d) * b ^ l.length + val b l) (l.length + 1) = (((m * b + d) * b ^ l.length + val b l) / b ^ l.length % b) :: dg b ((m * b + d) * b ^ l.length + val b l) l.length := rfl
    rw [e2, dg_val b hb l (fun x hx => h x (by simp [hx])) (m * b + d)]
    congr 1
    rw [Nat.mul_comm, Nat.mul_add_div hpos, Nat.div_eq_of_lt hl, Nat.add_zero, Nat.mul_comm m, Nat.mul_add_mod, Nat.mod_eq_of_lt h2]
theorem val_bound (b : Nat) (l : List Nat) (h : ∀ d ∈ l, d < b) (w : Nat) (hb : 0 < b) (hw : l.length ≤ w) : val b l < b ^ w :=
  Nat.lt_of_lt_of_le (val_lt b l h) (Nat.pow_le_pow_right hb hw)
end Go.Peri.Oct
