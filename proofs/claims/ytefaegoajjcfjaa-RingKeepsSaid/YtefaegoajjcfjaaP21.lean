/- Plain laws on the lines of a ring: no program in sight. -/
namespace Go.Peri.Ring

theorem mod2 {a n : Nat} (h : a < 2 * n) : a % n = if a < n then a else a - n := by
  split
  · exact Nat.mod_eq_of_lt ‹_›
  · rw [Nat.mod_eq_sub_mod (by omega), Nat.mod_eq_of_lt (by omega)]

/-- The lines of a ring: 'size' of them from 'first' on, round about. -/
def lines {α : Type} (d : α) (xs : List α) (first size : Nat) : List α := (List.range size).map fun i => xs.getD ((first + i) % xs.length) d

theorem lines_length {α : Type} (d : α) (xs : List α) (first size : Nat) : (lines d xs first size).length = size := by simp [lines]
theorem lines_get {α : Type} (d : α) (xs : List α) (first size i : Nat) (hi : i < size) : (lines d xs first size).getD i d = xs.getD ((first + i) % xs.length) d := by
  simp [lines, List.getD, hi]

theorem getD_set {α : Type} (d : α) (xs : List α) (j k : Nat) (s : α) : (xs.set j s).getD k d = if j = k ∧ k < xs.length then s else xs.getD k d := by
  simp only [List.getD, List.getElem?_set]
  by_cases h : j = k
  · subst h
    by_cases h2 : j < xs.length
    · simp [h2]
    · simp [h2]
  · simp [h]

theorem put_more {α : Type} (d : α) (xs : List α) (first size : Nat) (s : α) (hf : first < xs.length) (hs : size < xs.length) :
    lines d (xs.set ((first + size) % xs.length) s) first (size + 1) = lines d xs first size ++ [s] := by
  unfold lines
  rw [List.range_succ, List.map_append, List.length_set]
  congr 1
  · refine List.map_congr_left fun i hi => ?_
    have hi' := List.mem_range.1 hi
    rw [getD_set, if_neg]
    rintro ⟨h1, _⟩
    rw [mod2 (by omega), mod2 (by omega)] at h1
    split at h1 <;> split at h1 <;> omega
  · simp only [List.map_cons, List.map_nil]
    rw [getD_set, if_pos ⟨rfl, Nat.mod_lt _ (by omega)⟩]

theorem put_full {α : Type} (d : α) (xs : List α) (first : Nat) (s : α) (hf : first < xs.length) :
    lines d (xs.set first s) ((first + 1) % xs.length) xs.length = (lines d xs first xs.length ++ [s]).drop 1 := by
  apply List.ext_getElem?
  intro i
  rw [List.getElem?_drop]
  by_cases hi : i < xs.length
  · unfold lines
    rw [List.getElem?_map, List.getElem?_range hi, Option.map_some, List.length_set, getD_set]
    by_cases hl : i + 1 = xs.length
    · rw [show 1 + i = xs.length by omega, List.getElem?_append_right (by simp), List.length_map, List.length_range, Nat.sub_self]
      rw [if_pos]
      · rfl
      · rw [mod2 (show first + 1 < 2 * xs.length by omega)]
        split <;> rw [mod2 (by omega)] <;> split <;> omega
    · rw [List.getElem?_append_left (by simp; omega), List.getElem?_map, List.getElem?_range (by omega), Option.map_some]
      have e : ((first + 1) % xs.length + i) % xs.length = (first + (1 + i)) % xs.length := by
        rw [Nat.mod_add_mod]; congr 1; omega
      rw [e, if_neg]
      rintro ⟨h1, _⟩
      rw [mod2 (by omega)] at h1
      split at h1 <;> omega
  · rw [List.getElem?_eq_none (by simp [lines]; omega), List.getElem?_eq_none (by simp [lines]; omega)]

/-- What the document says of a line more. -/
def put {α : Type} (n : Nat) (st : List α × Int) (s : α) : List α × Int :=
  if n < st.1.length + 1 then ((st.1 ++ [s]).drop 1, min (st.2 + 1) 1099511627776) else (st.1 ++ [s], st.2)
def puts {α : Type} (n : Nat) (st : List α × Int) (l : List α) : List α × Int := l.foldl (put n) st

theorem puts_snoc {α : Type} (n : Nat) (st : List α × Int) (l : List α) (s : α) : puts n st (l ++ [s]) = put n (puts n st l) s := by simp [puts]
theorem puts_append {α : Type} (n : Nat) (st : List α × Int) (l m : List α) : puts n st (l ++ m) = puts n (puts n st l) m := by simp [puts]

/-- Behind any lines: the last ones that have room; what was put is there, or lost. -/
theorem puts_take {α : Type} (n : Nat) (l : List α) (hl : l.length < 1099511627776) : ∀ k : Nat, k ≤ l.length → puts n ([], 0) (l.take k) = ((l.take k).drop (k - n), ((k - n : Nat) : Int))
  | 0, _ => by simp [puts]
  | k + 1, hk => by
    have e : l.take (k + 1) = l.take k ++ [l[k]'(by omega)] := by rw [List.take_succ_eq_append_getElem (by omega)]
    have hlen : (l.take k).length = k := by rw [List.length_take]; omega
    rw [e, puts_snoc, puts_take n l hl k (by omega), put]
    simp only [List.length_drop, hlen]
    split
    · refine Prod.ext ?_ ?_
      · show ((l.take k).drop (k - n) ++ [l[k]'(by omega)]).drop 1 = _
        rw [← List.drop_append_of_le_length (by omega), List.drop_drop]
        congr 1; omega
      · show min _ _ = _
        omega
    · refine Prod.ext ?_ ?_
      · show (l.take k).drop (k - n) ++ [l[k]'(by omega)] = _
        rw [← List.drop_append_of_le_length (by omega)]
        congr 1; omega
      · simp only []
        omega
theorem puts_last {α : Type} (n : Nat) (l : List α) (hl : l.length < 1099511627776) : puts n ([], 0) l = (l.drop (l.length - n), ((l.length - n : Nat) : Int)) := by
  have := puts_take n l hl l.length (Nat.le_refl _)
  rwa [List.take_length] at this
end Go.Peri.Ring
namespace Go.Peri.Ring
theorem put_len {α : Type} (n : Nat) (st : List α × Int) (s : α) (h : st.1.length ≤ n) (h0 : 0 ≤ st.2) (h1 : st.2 ≤ 1099511627776) :
    (put n st s).1.length ≤ n ∧ 0 ≤ (put n st s).2 ∧ (put n st s).2 ≤ 1099511627776 := by
  unfold put
  split
  · refine ⟨?_, ?_, ?_⟩
    · simp; omega
    · show 0 ≤ min _ _; omega
    · show min _ _ ≤ _; omega
  · refine ⟨?_, h0, h1⟩
    simp; omega
theorem puts_len {α : Type} (n : Nat) : ∀ (l : List α) (st : List α × Int), st.1.length ≤ n → 0 ≤ st.2 → st.2 ≤ 1099511627776 →
    (puts n st l).1.length ≤ n ∧ 0 ≤ (puts n st l).2 ∧ (puts n st l).2 ≤ 1099511627776
  | [], _, h, h0, h1 => ⟨h, h0, h1⟩
  | s :: l, st, h, h0, h1 => by
    have ⟨g, g0, g1⟩ := put_len n st s h h0 h1
    exact puts_len n l (put n st s) g g0 g1
end Go.Peri.Ring
