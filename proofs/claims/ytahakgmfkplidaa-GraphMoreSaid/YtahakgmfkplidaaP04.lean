/- Plain facts of layer 4 (head). No program in sight. -/
import Derived.Test.YtahakgmfkplidaaHd
namespace Go.Peri
namespace Hd
theorem ix_le (l : List Hd) (n : ByteArray) : ix l n ≤ l.length := List.findIdx_le_length
theorem ix_snoc (p : List Hd) (h : Hd) (n : ByteArray) : ix (p ++ [h]) n = if ix p n < p.length then ix p n else if h.name = n then p.length else p.length + 1 := by
  unfold ix
  rw [List.findIdx_append]
  split
  · rfl
  · by_cases e : h.name = n <;> simp [List.findIdx_cons, e, Nat.add_comm]
/-- What stands of headers behind Set, of some first ones. -/
def setK (l : List Hd) (n v : ByteArray) : List Hd :=
  if ix l n < l.length then l.take (ix l n) ++ ⟨n, v⟩ :: (l.drop (ix l n)).filter (fun h => !decide (h.name = n)) else l
theorem setK_keep (p : List Hd) (h : Hd) (n v : ByteArray) (hn : h.name ≠ n) : setK (p ++ [h]) n v = setK p n v ++ [h] := by
  unfold setK
  by_cases hx : ix p n < p.length
  · have e : ix (p ++ [h]) n = ix p n := by rw [ix_snoc, if_pos hx]
    rw [e, if_pos hx, if_pos (by simp; omega), List.take_append_of_le_length (by omega), List.drop_append_of_le_length (by omega), List.filter_append]
    simp [hn]
  · have e : ix (p ++ [h]) n = p.length + 1 := by rw [ix_snoc, if_neg hx, if_neg hn]
    rw [e, if_neg hx, if_neg (by simp)]
theorem setK_skip (p : List Hd) (h : Hd) (n v : ByteArray) (hn : h.name = n) (hx : ix p n < p.length) : setK (p ++ [h]) n v = setK p n v := by
  unfold setK
  have e : ix (p ++ [h]) n = ix p n := by rw [ix_snoc, if_pos hx]
  rw [e, if_pos hx, if_pos (by simp; omega), List.take_append_of_le_length (by omega), List.drop_append_of_le_length (by omega), List.filter_append]
  simp [hn]
theorem setK_met (p : List Hd) (h : Hd) (n v : ByteArray) (hn : h.name = n) (hx : ¬ ix p n < p.length) : setK (p ++ [h]) n v = setK p n v ++ [⟨n, v⟩] := by
  unfold setK
  have e : ix (p ++ [h]) n = p.length := by rw [ix_snoc, if_neg hx, if_pos hn]
  rw [e, if_neg hx, if_pos (by simp)]
  simp [hn]
theorem setR_eq (l : List Hd) (n v : ByteArray) : setR l n v = if ix l n < l.length then setK l n v else setK l n v ++ [⟨n, v⟩] := by
  unfold setR setK
  split <;> rfl
theorem met_snoc (p : List Hd) (h : Hd) (n : ByteArray) : decide (ix (p ++ [h]) n < (p ++ [h]).length) = (decide (ix p n < p.length) || decide (h.name = n)) := by
  rw [ix_snoc]
  by_cases hx : ix p n < p.length
  · rw [if_pos hx]
    have : ix p n < p.length + 1 := by omega
    simp [hx, this]
  · rw [if_neg hx]
    by_cases e : h.name = n <;> simp [e, hx]
theorem before (l : List Hd) (n : ByteArray) : ∀ h ∈ l.take (ix l n), h.name ≠ n := by
  intro h hh
  obtain ⟨i, hi, rfl⟩ := List.getElem_of_mem hh
  rw [List.length_take] at hi
  rw [List.getElem_take]
  have := List.not_of_lt_findIdx (p := fun h : Hd => decide (h.name = n)) (xs := l) (i := i) (by unfold ix at hi; omega)
  simpa using this
theorem at_ix (l : List Hd) (n : ByteArray) (h : ix l n < l.length) : l[ix l n].name = n := by
  have := List.findIdx_getElem (w := h)
  exact of_decide_eq_true this
theorem allR_set (l : List Hd) (n v : ByteArray) : allR (setR l n v) n = [v] := by
  unfold allR setR
  split
  · rename_i hx
    rw [List.filter_append, List.filter_cons]
    have e1 : (l.take (ix l n)).filter (fun h => decide (h.name = n)) = [] := List.filter_eq_nil_iff.2 (fun h hh => by simpa using before l n h hh)
    have e2 : ((l.drop (ix l n)).filter (fun h => !decide (h.name = n))).filter (fun h => decide (h.name = n)) = [] := by
      rw [List.filter_filter]
      exact List.filter_eq_nil_iff.2 (fun h _ => by simp)
    rw [e1, e2]
    simp
  · rename_i hx
    have e1 : l.filter (fun h => decide (h.name = n)) = [] := by
      refine List.filter_eq_nil_iff.2 (fun h hh => ?_)
      have hl : ix l n = l.length := by have := ix_le l n; omega
      have := before l n h (by rw [hl, List.take_length]; exact hh)
      simpa using this
    rw [List.filter_append, e1]
    simp
theorem outR_one (l : List Hd) (n : ByteArray) : outR l [n] = l.filter (fun h => !decide (h.name = n)) := by
  unfold outR
  refine List.filter_congr fun h _ => ?_
  by_cases e : h.name = n
  · simp [e]
  · have e2 : ¬ n = h.name := fun h2 => e h2.symm
    simp [e, e2]
theorem out_set (l : List Hd) (n v : ByteArray) : outR (setR l n v) [n] = outR l [n] := by
  rw [outR_one, outR_one]
  unfold setR
  split
  · rename_i hx
    rw [List.filter_append, List.filter_cons]
    simp only [decide_true, Bool.not_true, Bool.false_eq_true, if_false]
    rw [List.filter_filter]
    conv => rhs; rw [← List.take_append_drop (ix l n) l, List.filter_append]
    simp
  · rw [List.filter_append]
    simp
theorem out_len (l : List Hd) (n v : ByteArray) : (outR (setR l n v) [n]).length + 1 = (setR l n v).length := by
  have h1 : (outR (setR l n v) [n]).length + (allR (setR l n v) n).length = (setR l n v).length := by
    rw [outR_one]
    unfold allR
    rw [List.length_map]
    generalize setR l n v = x
    induction x with
    | nil => rfl
    | cons h t ih => by_cases e : h.name = n <;> simp [e] at ih ⊢ <;> omega
  rw [allR_set] at h1
  exact h1
theorem get_out (l : List Hd) (n : ByteArray) : getR (outR l [n]) n = (ByteArray.empty, false) := by
  have : allR (outR l [n]) n = [] := by
    unfold allR
    rw [outR_one, List.filter_filter, List.map_eq_nil_iff]
    exact List.filter_eq_nil_iff.2 (fun h _ => by simp)
  unfold getR
  rw [this]
/-- The first ones may all be. -/
theorem checkL_skip (l : List Hd) : ∀ k, k ≤ l.length → (∀ j (_ : j < k) (hj : j < l.length), nameOk l[j].name = true ∧ valueOk l[j].value = true) → checkL l = checkL (l.drop k)
  | 0, _, _ => rfl
  | k + 1, hk, h => by
    rw [checkL_skip l k (by omega) (fun j hj hjl => h j (by omega) hjl)]
    have := h k (by omega) (by omega)
    rw [List.drop_eq_getElem_cons (by omega)]
    simp [checkL, this.1, this.2]
theorem checkL_name (l : List Hd) (k : Nat) (hk : k < l.length) (h : ∀ j (_ : j < k) (hj : j < l.length), nameOk l[j].name = true ∧ valueOk l[j].value = true) (h1 : nameOk l[k].name = false) : checkL l = 7 := by
  rw [checkL_skip l k (by omega) h, List.drop_eq_getElem_cons hk]
  simp [checkL, h1]
theorem checkL_value (l : List Hd) (k : Nat) (hk : k < l.length) (h : ∀ j (_ : j < k) (hj : j < l.length), nameOk l[j].name = true ∧ valueOk l[j].value = true) (h1 : nameOk l[k].name = true) (h2 : valueOk l[k].value = false) : checkL l = 15 := by
  rw [checkL_skip l k (by omega) h, List.drop_eq_getElem_cons hk]
  simp [checkL, h1, h2]
theorem checkL_ok (l : List Hd) (h : ∀ j (_ : j < l.length) (hj : j < l.length), nameOk l[j].name = true ∧ valueOk l[j].value = true) : checkL l = 0 := by
  rw [checkL_skip l l.length (Nat.le_refl _) h, List.drop_length]
  rfl
theorem all_snoc {p : UInt8 → Bool} {l : List UInt8} {k : Nat} (hk : k < l.length) (h : (l.take k).all p = true) (h1 : p l[k] = true) : (l.take (k + 1)).all p = true := by
  rw [List.take_succ_eq_append_getElem hk, List.all_append, h]
  simp [h1]
theorem all_hit {p : UInt8 → Bool} {l : List UInt8} {k : Nat} (hk : k < l.length) (h1 : p l[k] = false) : l.all p = false := by
  rw [List.all_eq_false]
  exact ⟨l[k], List.getElem_mem hk, by simpa using h1⟩
end Hd
end Go.Peri
