/- General lemmas on rows of k cells: one element exchanged, what is owned. No program in sight. -/
import Derived.Test.YtdamnbldimompaaCl
namespace Go.Peri
namespace Gen
open Go.RowKit
section
variable {α β : Type}
/-- One cell of a flat list. -/
theorem flat_set {enc : α → List Value} {k : Nat} (hk : ∀ x, (enc x).length = k) : ∀ (l : List α) (i : Nat) (hi : i < l.length) (j : Nat) (u : Value) (x : α), j < k → enc x = (enc l[i]).set j u → (l.flatMap enc).set (i * k + j) u = (l.set i x).flatMap enc
  | y :: l, 0, _, j, u, x, hj, hx => by
    rw [Nat.zero_mul, Nat.zero_add, List.flatMap_cons, List.set_append_left _ _ (by rw [hk]; exact hj), List.set_cons_zero, List.flatMap_cons, hx]
    rfl
  | y :: l, i + 1, hi, j, u, x, hj, hx => by
    rw [List.flatMap_cons, List.set_append_right _ _ (by rw [hk, Nat.succ_mul]; omega), hk, show (i + 1) * k + j - k = i * k + j by rw [Nat.succ_mul]; omega, List.set_cons_succ, List.flatMap_cons]
    congr 1
    exact flat_set hk l i (by simpa using hi) j u x hj hx
theorem set_mid (l1 : List α) (l : List α) (k : Nat) (h1 : l1.length = k) (hk : k < l.length) (x : α) : (l1 ++ l.drop k).set k x = (l1 ++ [x]) ++ l.drop (k + 1) := by
  subst h1
  rw [List.set_append_right _ _ (Nat.le_refl _), Nat.sub_self, List.drop_eq_getElem_cons hk, List.set_cons_zero]
  simp
theorem get_mid (l1 : List α) (l : List α) (k : Nat) (h1 : l1.length = k) (hk : k < l.length) (h : k < (l1 ++ l.drop k).length) : (l1 ++ l.drop k)[k] = l[k] := by
  subst h1
  rw [List.getElem_append_right (Nat.le_refl _)]
  simp
theorem map_take_snoc (f : α → β) (l1 l : List α) (k : Nat) (hk : k < l.length) (x : α) (h : l1.map f = (l.take k).map f) (hx : f x = f l[k]) : (l1 ++ [x]).map f = (l.take (k + 1)).map f := by
  rw [List.take_succ_eq_append_getElem hk, List.map_append, List.map_append, h, List.map_singleton, List.map_singleton, hx]
end
theorem owns_at {w : World} {base : Nat} {e : TypeId} {size n : Nat} {v : Value} {xs : List Value} (h : w.ownsRow base e size v n xs) (hn : 0 < n) : ∃ g cap, v = .slice (some ⟨g, 0, none⟩) n cap ∧ base ≤ g ∧ g < w.heap.size := by
  rcases h.2 with ⟨_, h0⟩ | ⟨g, cap, cur, hv, hb, hg, _⟩
  · omega
  · exact ⟨g, cap, hv, hb, (Array.getElem?_eq_some_iff.1 hg).1⟩
theorem owns_num {w : World} {base : Nat} {e : TypeId} {size : Nat} {v : Value} {n m : Nat} {xs : List Value} (hn : n = m) (h : w.ownsRow base e size v n xs) : w.ownsRow base e size v m xs := hn ▸ h
theorem owns_le {w : World} {base base' : Nat} {e : TypeId} {size : Nat} {v : Value} {n : Nat} {xs : List Value} (h : w.ownsRow base e size v n xs) (hb : base' ≤ base) : w.ownsRow base' e size v n xs :=
  ⟨h.1, h.2.imp id fun ⟨g, cap, cur, h1, h2, h3⟩ => ⟨g, cap, cur, h1, Nat.le_trans hb h2, h3⟩⟩
theorem owns_below {w w' : World} {base : Nat} {e : TypeId} {size : Nat} {v : Value} {n : Nat} {xs : List Value} (h : w.ownsRow base e size v n xs) (hb : Below w.heap.size w w') : w'.ownsRow base e size v n xs :=
  owns_keep h (Only.of_below hb) (by intro k hk h; exact absurd h List.not_mem_nil)
theorem owns_form {w : World} {base : Nat} {e : TypeId} {size : Nat} {v : Value} {n : Nat} {xs : List Value} (h : w.ownsRow base e size v n xs) : ∃ a cap, v = .slice a n cap := by
  rcases h.2 with ⟨rfl, rfl⟩ | ⟨g, cap, cur, hv, _⟩
  · exact ⟨none, 0, rfl⟩
  · exact ⟨_, cap, hv⟩
end Gen
end Go.Peri
