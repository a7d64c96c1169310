/- Where the first one of a name stands in a list; no program in sight. -/
import Derived.Test.YtahakgmfkplidaaGq
namespace Go.Peri
namespace Gx
section
variable {α : Type} (f : α → ByteArray)
def ix (l : List α) (n : ByteArray) : Nat := l.findIdx (fun x => decide (f x = n))
def atI (l : List α) (n : ByteArray) : Int := if ix f l n < l.length then (ix f l n : Int) else -1
/-- One of the name stands ahead of place i. -/
def dup (l : List α) (i : Nat) (n : ByteArray) : Bool := decide (ix f l n < i)
variable {f}
theorem ix_le (l : List α) (n : ByteArray) : ix f l n ≤ l.length := List.findIdx_le_length
theorem ix_hit {l : List α} {n : ByteArray} {k : Nat} (hk : k < l.length) (h1 : f l[k] = n) (h2 : ∀ j (_ : j < k) (hj : j < l.length), f l[j] ≠ n) : ix f l n = k := by
  unfold ix
  rw [List.findIdx_eq hk]
  exact ⟨decide_eq_true h1, fun j hj => decide_eq_false (h2 j hj (by omega))⟩
theorem at_ix {l : List α} {n : ByteArray} (h : ix f l n < l.length) : f l[ix f l n] = n := by
  have := List.findIdx_getElem (p := fun x => decide (f x = n)) (xs := l) (w := h)
  exact of_decide_eq_true this
theorem ix_first {l : List α} {n : ByteArray} {k : Nat} (h : k < ix f l n) (hk : k < l.length) : f l[k] ≠ n := by
  have := List.not_of_lt_findIdx (p := fun x => decide (f x = n)) (xs := l) h
  simpa using this
theorem ix_none {l : List α} {n : ByteArray} (h2 : ∀ j (hj : j < l.length), f l[j] ≠ n) : ix f l n = l.length := by
  rcases Nat.lt_or_ge (ix f l n) l.length with h | h
  · exact absurd (at_ix h) (h2 _ h)
  · exact Nat.le_antisymm (ix_le l n) h
theorem atI_hit {l : List α} {n : ByteArray} {k : Nat} (hk : k < l.length) (h1 : f l[k] = n) (h2 : ∀ j (_ : j < k) (hj : j < l.length), f l[j] ≠ n) : atI f l n = k := by
  unfold atI
  rw [ix_hit hk h1 h2, if_pos hk]
theorem atI_none {l : List α} {n : ByteArray} (h2 : ∀ j (hj : j < l.length), f l[j] ≠ n) : atI f l n = -1 := by
  unfold atI
  rw [ix_none h2, if_neg (by omega)]
theorem ix_at_le {l : List α} {n : ByteArray} {i : Nat} (hi : i < l.length) (h : f l[i] = n) : ix f l n ≤ i := by
  rcases Nat.lt_or_ge i (ix f l n) with h1 | h1
  · exact absurd h (ix_first h1 hi)
  · exact h1
theorem atI_own {l : List α} {n : ByteArray} {i : Nat} (hi : i < l.length) (h : f l[i] = n) : atI f l n = ix f l n := by
  have := ix_at_le hi h
  unfold atI
  rw [if_pos (by omega)]
theorem dup_true {l : List α} {n : ByteArray} {i k : Nat} (hk : k < i) (hl : k < l.length) (h : f l[k] = n) : dup f l i n = true := by
  unfold dup
  exact decide_eq_true (Nat.lt_of_le_of_lt (ix_at_le hl h) hk)
theorem dup_false {l : List α} {n : ByteArray} {i : Nat} (hi : i < l.length) (h : ∀ j (_ : j < i) (hj : j < l.length), f l[j] ≠ n) : dup f l i n = false := by
  unfold dup
  refine decide_eq_false fun h2 => ?_
  exact h _ h2 (by omega) (at_ix (by omega))
/-- The first thing that is wrong, by place. -/
def firstI (g : Nat → α → Int) : Nat → List α → Int
  | _, [] => 0
  | k, x :: l => if (g k x != 0) = true then g k x else firstI g (k + 1) l
theorem firstI_drop {g : Nat → α → Int} {l : List α} {k : Nat} (hk : k < l.length) : firstI g k (l.drop k) = if (g k l[k] != 0) = true then g k l[k] else firstI g (k + 1) (l.drop (k + 1)) := by
  rw [List.drop_eq_getElem_cons hk]
  rfl
theorem firstI_end {g : Nat → α → Int} {l : List α} : firstI g l.length (l.drop l.length) = 0 := by rw [List.drop_length]; rfl
end
end Gx
end Go.Peri
