/- Plain law of layer 35 (graph): names and nodes are one another's; a service more behind changes nothing. -/
import Derived.Test.YtahakgmfkplidaaW35
namespace Go.Proofs.Ytahakgmfkplidaa
open Go.RowKit Go.Peri
namespace C35
theorem firstI_zero {α : Type} {g : Nat → α → Int} : ∀ {l : List α} {k : Nat}, Gx.firstI g k l = 0 → ∀ i (hi : i < l.length), g (k + i) l[i] = 0
  | [], _, _, i, hi => by simp at hi
  | x :: l, k, h, i, hi => by
    unfold Gx.firstI at h
    by_cases hx : (g k x != 0) = true
    · rw [if_pos hx] at h
      rw [h] at hx
      simp at hx
    · rw [if_neg hx] at h
      match i with
      | 0 => simpa using hx
      | i + 1 =>
        have := firstI_zero h i (by simpa using hi)
        rw [show k + 1 + i = k + (i + 1) by omega] at this
        exact this
theorem node_name {l : List Sv} (h : gE l = 0) {node : Int} (h1 : 1 ≤ node) (h2 : node ≤ l.length) : nodeR l (nameR l node) = node := by
  obtain ⟨k, rfl⟩ : ∃ k : Nat, node = (k : Int) + 1 := ⟨(node - 1).toNat, by omega⟩
  have hk : k < l.length := by omega
  unfold gE at h
  by_cases h7 : 7 < l.length
  · rw [if_pos h7] at h; exact absurd h (by decide)
  rw [if_neg h7] at h
  have hz := firstI_zero h k hk
  rw [Nat.zero_add] at hz
  unfold sE at hz
  by_cases a1 : Hd.nameOk l[k].name = false
  · rw [if_pos a1] at hz; exact absurd hz (by decide)
  rw [if_neg a1] at hz
  by_cases a2 : gateB l[k].name = true
  · rw [if_pos a2] at hz; exact absurd hz (by decide)
  rw [if_neg a2] at hz
  by_cases a3 : Gx.dup Sv.name l k l[k].name = true
  · rw [if_pos a3] at hz; exact absurd hz (by decide)
  unfold Gx.dup at a3
  rw [decide_eq_true_eq] at a3
  have hle := Gx.ix_at_le (f := Sv.name) hk rfl
  have hat := Gx.atI_own (f := Sv.name) hk rfl
  have hkk : ((k : Int) + 1 - 1).toNat = k := by omega
  unfold nameR
  rw [if_neg (by omega), if_neg (by omega), hkk, getElem!_pos l k hk]
  unfold nodeR
  rw [hat, if_neg (by omega)]
  omega
theorem handR_len {l : List Sv} (h : ∀ x ∈ l, ∀ y ∈ x.hs, y.ops.length ≤ 1000000) (node : Int) (path : ByteArray) : (handR l node path).1.length ≤ 1000000 := by
  unfold handR
  split
  · simp
  · rename_i hn
    have hk : (node - 1).toNat < l.length := by omega
    rw [getElem!_pos l _ hk]
    split
    · rename_i hi
      rw [getElem!_pos l[(node - 1).toNat].hs _ hi]
      exact h _ (List.getElem_mem hk) _ (List.getElem_mem hi)
    · simp
theorem few_ops {l : List Sv} (h : Sv.few l = true) : ∀ x ∈ l, ∀ y ∈ x.hs, y.ops.length ≤ 1000000 := by
  intro x hx y hy
  unfold Sv.few at h
  rw [Bool.and_eq_true, List.all_eq_true] at h
  have h1 := h.2 x hx
  unfold Sv.fewB at h1
  rw [Bool.and_eq_true, Bool.and_eq_true, List.all_eq_true] at h1
  have h2 := h1.2.2 y hy
  unfold Hn.fewB at h2
  rw [Bool.and_eq_true] at h2
  have := Opr.few_len h2.2
  omega
theorem few_count {l : List Sv} (h : Sv.few l = true) : l.length ≤ 20 := by
  unfold Sv.few at h
  rw [Bool.and_eq_true] at h
  exact of_decide_eq_true h.1
theorem sok_of_wf {w : World} {B : Nat} {x : Sv} (h : x.Wf w B) : SOk (· < B) w x := by
  refine ⟨by have := h.name; omega, h.rows, by have := h.len; omega, fun y hy => ?_⟩
  have hy' := h.hs y hy
  exact ⟨by have := hy'.path; omega, hy'.rows, by have := hy'.len; omega, fun o ho => ⟨by have := (hy'.ops o ho).a; omega, by have := (hy'.ops o ho).b; omega⟩⟩
section
variable {l : List Sv} {m : Sv}
theorem get_more {k : Nat} (hk : k < l.length) : (l ++ [m])[k]! = l[k]! := by
  rw [getElem!_pos (l ++ [m]) k (by simp; omega), getElem!_pos l k hk, List.getElem_append_left hk]
theorem name_more {node : Int} (h1 : 0 ≤ node) (h2 : node ≤ l.length) : nameR (l ++ [m]) node = nameR l node := by
  unfold nameR
  by_cases h0 : node = 0
  · rw [if_pos h0, if_pos h0]
  · rw [if_neg h0, if_neg h0, if_neg (by simp; omega), if_neg (by omega), get_more (by omega)]
theorem hand_more {node : Int} (path : ByteArray) (h2 : node ≤ l.length) : handR (l ++ [m]) node path = handR l node path := by
  unfold handR
  by_cases h0 : node < 1
  · rw [if_pos (.inl h0), if_pos (.inl h0)]
  · rw [if_neg (show ¬ (node < 1 ∨ ((l ++ [m]).length : Int) < node) by simp; omega), if_neg (show ¬ (node < 1 ∨ (l.length : Int) < node) by omega), get_more (by omega)]
theorem ix_more {n : ByteArray} (h : Gx.ix Sv.name l n < l.length) : Gx.ix Sv.name (l ++ [m]) n = Gx.ix Sv.name l n := by
  refine Gx.ix_hit (by simp; omega) ?_ ?_
  · rw [List.getElem_append_left h]; exact Gx.at_ix h
  · intro j hj hjl
    rw [List.getElem_append_left (by omega)]
    exact Gx.ix_first hj (by omega)
theorem node_more {k : Nat} (hk : k < l.length) : nodeR (l ++ [m]) l[k].name = nodeR l l[k].name := by
  have hle := Gx.ix_at_le (f := Sv.name) hk rfl
  unfold nodeR Gx.atI
  rw [ix_more (by omega), if_pos (show Gx.ix Sv.name l l[k].name < (l ++ [m]).length by simp; omega), if_pos (show Gx.ix Sv.name l l[k].name < l.length by omega)]
theorem none_of_node {n : ByteArray} (h : nodeR l n = -1) : ∀ j (hj : j < l.length), l[j].name ≠ n := by
  intro j hj e
  have hle := Gx.ix_at_le (f := Sv.name) hj e
  unfold nodeR Gx.atI at h
  rw [if_pos (show Gx.ix Sv.name l n < l.length by omega), if_neg (by omega)] at h
  omega
theorem node_last (h : nodeR l m.name = -1) : nodeR (l ++ [m]) m.name = l.length + 1 := by
  have hn := none_of_node h
  have : Gx.atI Sv.name (l ++ [m]) m.name = (l.length : Int) := by
    refine Gx.atI_hit (by simp) (by simp) ?_
    intro j hj hjl
    rw [List.getElem_append_left hj]
    exact hn j hj
  unfold nodeR
  rw [this, if_neg (by omega)]
theorem name_last : nameR (l ++ [m]) (l.length + 1) = m.name := by
  have hkk : ((l.length : Int) + 1 - 1).toNat = l.length := by omega
  unfold nameR
  rw [if_neg (by omega), if_neg (by simp; omega), hkk, getElem!_pos (l ++ [m]) l.length (by simp)]
  simp
end
end C35
end Go.Proofs.Ytahakgmfkplidaa
