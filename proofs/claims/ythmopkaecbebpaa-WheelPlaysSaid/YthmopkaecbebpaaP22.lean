/- Plain law of layer 22 (wheel). No program in sight. -/
import Derived.Test.YthmopkaecbebpaaOw
namespace Go.Peri
open Go.RowKit
/-- Something that is due. -/
structure Du where
  id : Int
  at_ : Int
deriving DecidableEq
namespace Du
def enc (d : Du) : List Value := [.int .i64 d.id, .int .i64 d.at_]
theorem enc_length (d : Du) : d.enc.length = 2 := rfl
theorem one (l : List Du) : ∀ u ∈ l.flatMap Du.enc, u.oneCell' = true := by
  intro u hu
  obtain ⟨o, _, ho⟩ := List.mem_flatMap.1 hu
  simp only [Du.enc, List.mem_cons, List.not_mem_nil, or_false] at ho
  rcases ho with rfl | rfl <;> rfl
theorem cells {y : Du} {w : World} {b o : Nat} (h : ∀ j u, y.enc[j]? = some u → w.cell? ⟨b, o + j, none⟩ = some u) :
    w.cell? ⟨b, o, none⟩ = some (.int .i64 y.id) ∧ w.cell? ⟨b, o + 1, none⟩ = some (.int .i64 y.at_) := ⟨h 0 _ rfl, h 1 _ rfl⟩
end Du
namespace Wh
/-- All that is on a wheel is due later, but not much. -/
structure Inv (n : Nat) (l : List Du) : Prop where
  lo : ∀ d ∈ l, (n : Int) + 1 ≤ d.at_
  hi : ∀ d ∈ l, d.at_ ≤ (n : Int) + 50
  len : l.length ≤ 32
def setE (l : List Du) (t : Int) : Int := if t < 1 ∨ 50 < t then 12 else if 32 ≤ l.length then 8 else 0
def setL (n : Nat) (l : List Du) (id t : Int) : List Du := if setE l t = 0 then l ++ [⟨id, (n : Int) + t⟩] else l
def due (n : Nat) (l : List Du) : List Int := (l.filter (fun d => decide (d.at_ ≤ (n : Int) + 1))).map Du.id
def rest (n : Nat) (l : List Du) : List Du := l.filter (fun d => !decide (d.at_ ≤ (n : Int) + 1))
/-- A slot's list: numbers, and how often the wheel goes round ahead of them. -/
def row (n : Nat) (l : List Du) (i : Nat) : List Du := (l.filter (fun d => decide (d.at_ % 16 = (i : Int)))).map (fun d => ⟨d.id, (d.at_ - (n : Int) - 1) / 16⟩)
def sorted (n : Nat) (l : List Du) : Nat → List Du
  | 0 => []
  | k + 1 => sorted n l k ++ l.filter (fun d => decide (d.at_ = (n : Int) + ((k : Int) + 1)))
theorem inv_nil (n : Nat) : Inv n [] := ⟨by simp, by simp, by simp⟩
theorem setE_ok {l : List Du} {t : Int} (h : setE l t = 0) : 1 ≤ t ∧ t ≤ 50 ∧ l.length < 32 := by
  unfold setE at h
  split at h
  · cases h
  · split at h
    · cases h
    · omega
theorem inv_set {n : Nat} {l : List Du} (h : Inv n l) (id t : Int) : Inv n (setL n l id t) := by
  unfold setL
  split
  · rename_i he
    obtain ⟨h1, h2, h3⟩ := setE_ok he
    refine ⟨fun d hd => ?_, fun d hd => ?_, by simp; omega⟩
    · rcases List.mem_append.1 hd with hd | hd
      · exact h.lo d hd
      · rw [List.mem_singleton] at hd; subst hd; show _ ≤ (n : Int) + t; omega
    · rcases List.mem_append.1 hd with hd | hd
      · exact h.hi d hd
      · rw [List.mem_singleton] at hd; subst hd; show (n : Int) + t ≤ _; omega
  · exact h
theorem inv_rest {n : Nat} {l : List Du} (h : Inv n l) : Inv (n + 1) (rest n l) := by
  refine ⟨fun d hd => ?_, fun d hd => ?_, Nat.le_trans (List.length_filter_le _ _) h.len⟩
  · have := (List.mem_filter.1 hd).2
    simp at this
    push_cast
    omega
  · have := h.hi d (List.mem_filter.1 hd).1
    push_cast
    omega
theorem row_len (n : Nat) (l : List Du) (i : Nat) : (row n l i).length ≤ l.length := by
  unfold row
  rw [List.length_map]
  exact List.length_filter_le _ _
theorem row_set {n : Nat} {l : List Du} {t : Int} (he : setE l t = 0) (id : Int) {i : Nat} (hi : ((n : Int) + t) % 16 = (i : Int)) : row n (setL n l id t) i = row n l i ++ [⟨id, (t - 1) / 16⟩] := by
  unfold setL row
  rw [if_pos he, List.filter_append]
  simp only [List.filter_cons, hi, decide_true, if_true, List.filter_nil, List.map_append, List.map_cons, List.map_nil]
  rw [show (n : Int) + t - (n : Int) - 1 = t - 1 by omega]
theorem row_other {n : Nat} {l : List Du} {id t : Int} {i : Nat} (hi : ¬ ((n : Int) + t) % 16 = (i : Int)) : row n (setL n l id t) i = row n l i := by
  unfold setL row
  split
  · rw [List.filter_append]
    simp [hi]
  · rfl
theorem row_nil (n i : Nat) : row n [] i = [] := rfl
theorem row_next {n : Nat} {l : List Du} (h : Inv n l) {i : Nat} (hi : ((n : Int) + 1) % 16 = (i : Int)) :
    row (n + 1) (rest n l) i = ((row n l i).filter (fun d => !decide (d.at_ = 0))).map (fun d => ⟨d.id, d.at_ - 1⟩) := by
  obtain ⟨h1, h2, h3⟩ := h
  clear h3
  unfold row rest
  induction l with
  | nil => rfl
  | cons d l ih =>
    have ih := ih (fun x hx => h1 x (by simp [hx])) (fun x hx => h2 x (by simp [hx]))
    have a1 := h1 d (by simp)
    have a2 := h2 d (by simp)
    by_cases e1 : d.at_ % 16 = (i : Int)
    · by_cases e2 : d.at_ ≤ (n : Int) + 1
      · have e3 : (d.at_ - (n : Int) - 1) / 16 = 0 := by omega
        simp [e1, e2, e3] at ih ⊢
        exact ih
      · have e3 : ¬ (d.at_ - (n : Int) - 1) / 16 = 0 := by omega
        have e4 : (d.at_ - ((n : Int) + 1) - 1) / 16 = (d.at_ - (n : Int) - 1) / 16 - 1 := by omega
        simp [e1, e2, e3, e4] at ih ⊢
        exact ih
    · by_cases e2 : d.at_ ≤ (n : Int) + 1
      · simp [e1, e2] at ih ⊢
        exact ih
      · simp [e1, e2] at ih ⊢
        exact ih
theorem row_stay {n : Nat} {l : List Du} (h : Inv n l) {i : Nat} (hi : ¬ ((n : Int) + 1) % 16 = (i : Int)) : row (n + 1) (rest n l) i = row n l i := by
  obtain ⟨h1, h2, h3⟩ := h
  clear h3
  unfold row rest
  induction l with
  | nil => rfl
  | cons d l ih =>
    have ih := ih (fun x hx => h1 x (by simp [hx])) (fun x hx => h2 x (by simp [hx]))
    have a1 := h1 d (by simp)
    have a2 := h2 d (by simp)
    by_cases e1 : d.at_ % 16 = (i : Int)
    · have e2 : ¬ d.at_ ≤ (n : Int) + 1 := by
        intro h
        have : d.at_ = (n : Int) + 1 := by omega
        rw [this] at e1
        exact hi e1
      have e4 : (d.at_ - ((n : Int) + 1) - 1) / 16 = (d.at_ - (n : Int) - 1) / 16 := by omega
      simp [e1, e2, e4] at ih ⊢
      exact ih
    · by_cases e2 : d.at_ ≤ (n : Int) + 1
      · simp [e1, e2] at ih ⊢
        exact ih
      · simp [e1, e2] at ih ⊢
        exact ih
theorem due_row {n : Nat} {l : List Du} (h : Inv n l) {i : Nat} (hi : ((n : Int) + 1) % 16 = (i : Int)) :
    due n l = ((row n l i).filter (fun d => decide (d.at_ = 0))).map Du.id := by
  obtain ⟨h1, h2, h3⟩ := h
  clear h3
  unfold row due
  induction l with
  | nil => rfl
  | cons d l ih =>
    have ih := ih (fun x hx => h1 x (by simp [hx])) (fun x hx => h2 x (by simp [hx]))
    have a1 := h1 d (by simp)
    have a2 := h2 d (by simp)
    by_cases e2 : d.at_ ≤ (n : Int) + 1
    · have e1 : d.at_ % 16 = (i : Int) := by
        have : d.at_ = (n : Int) + 1 := by omega
        rw [this]; exact hi
      have e3 : (d.at_ - (n : Int) - 1) / 16 = 0 := by omega
      simp [e1, e2, e3] at ih ⊢
      exact ih
    · by_cases e1 : d.at_ % 16 = (i : Int)
      · have e3 : ¬ (d.at_ - (n : Int) - 1) / 16 = 0 := by omega
        simp [e1, e2, e3] at ih ⊢
        exact ih
      · simp [e1, e2] at ih ⊢
        exact ih
theorem rest_len (n : Nat) (l : List Du) : (rest n l).length + (due n l).length = l.length := by
  unfold rest due
  rw [List.length_map]
  induction l with
  | nil => rfl
  | cons d l ih => by_cases e : d.at_ ≤ (n : Int) + 1 <;> simp [e] at ih ⊢ <;> omega
/-- What the k-th step from now on looks up in its slot. -/
theorem at_row {n : Nat} {l : List Du} (h : Inv n l) {k i : Nat} (hk : k < 50) (hi : ((n : Int) + ((k : Int) + 1)) % 16 = (i : Int)) :
    l.filter (fun d => decide (d.at_ = (n : Int) + ((k : Int) + 1))) = ((row n l i).filter (fun d => decide (d.at_ = (k : Int) / 16))).map (fun d => ⟨d.id, (n : Int) + ((k : Int) + 1)⟩) := by
  obtain ⟨h1, h2, h3⟩ := h
  clear h3
  unfold row
  induction l with
  | nil => rfl
  | cons d l ih =>
    have ih := ih (fun x hx => h1 x (by simp [hx])) (fun x hx => h2 x (by simp [hx]))
    have a1 := h1 d (by simp)
    have a2 := h2 d (by simp)
    by_cases e2 : d.at_ = (n : Int) + ((k : Int) + 1)
    · have e1 : d.at_ % 16 = (i : Int) := by rw [e2]; exact hi
      have e3 : (d.at_ - (n : Int) - 1) / 16 = (k : Int) / 16 := by omega
      simp only [List.filter_cons, decide_eq_true e1, decide_eq_true e2, if_true, List.map_cons, decide_eq_true e3]
      rw [ih]
      obtain ⟨a, b⟩ := d
      simp only at e2
      rw [e2]
    · by_cases e1 : d.at_ % 16 = (i : Int)
      · have e3 : ¬ (d.at_ - (n : Int) - 1) / 16 = (k : Int) / 16 := by omega
        simp only [List.filter_cons, decide_eq_true e1, decide_eq_false e2, if_true, List.map_cons, decide_eq_false e3, Bool.false_eq_true, if_false]
        exact ih
      · simp only [List.filter_cons, decide_eq_false e1, decide_eq_false e2, Bool.false_eq_true, if_false]
        exact ih
theorem sorted_len {n : Nat} {l : List Du} : ∀ k, (sorted n l k).length ≤ k * l.length
  | 0 => by simp [sorted]
  | k + 1 => by
    have := sorted_len (n := n) (l := l) k
    have h2 := List.length_filter_le (fun d : Du => decide (d.at_ = (n : Int) + ((k : Int) + 1))) l
    simp only [sorted, List.length_append]
    rw [Nat.succ_mul]
    omega
/-- Those of the number -1. -/
def mark (l : List Du) : List Du := l.filter (fun d => decide (d.id = -1))
theorem mark_none {l : List Du} (h : ∀ d ∈ l, d.id ≠ -1) : mark l = [] := List.filter_eq_nil_iff.2 (fun d hd => by simpa using h d hd)
theorem mark_set {n : Nat} {l : List Du} {t : Int} (h : ∀ d ∈ l, d.id ≠ -1) (he : setE l t = 0) : mark (setL n l (-1) t) = [⟨-1, (n : Int) + t⟩] := by
  unfold setL
  rw [if_pos he]
  have := mark_none h
  unfold mark at this ⊢
  rw [List.filter_append, this]
  rfl
theorem mark_rest (n : Nat) (l : List Du) : mark (rest n l) = (mark l).filter (fun d => !decide (d.at_ ≤ (n : Int) + 1)) := by
  unfold mark rest
  rw [List.filter_filter, List.filter_filter]
  exact List.filter_congr (fun d _ => Bool.and_comm _ _)
theorem mark_due (n : Nat) (l : List Du) : (due n l).count (-1) = ((mark l).filter (fun d => decide (d.at_ ≤ (n : Int) + 1))).length := by
  unfold mark due
  induction l with
  | nil => rfl
  | cons d l ih =>
    by_cases e : d.at_ ≤ (n : Int) + 1
    · by_cases e2 : d.id = -1
      · simp [e, e2] at ih ⊢
        exact ih
      · have e3 : (d.id == -1) = false := beq_eq_false_iff_ne.2 e2
        simp [e, e2] at ih ⊢
        exact ih
    · by_cases e2 : d.id = -1 <;> simp [e, e2] at ih ⊢ <;> exact ih
theorem ids_set {n : Nat} {l : List Du} {id t : Int} (h : ∀ d ∈ l, d.id ≠ -1) (hid : id ≠ -1) : ∀ d ∈ setL n l id t, d.id ≠ -1 := by
  unfold setL
  split
  · intro d hd
    rcases List.mem_append.1 hd with hd | hd
    · exact h d hd
    · rw [List.mem_singleton] at hd; subst hd; exact hid
  · exact h
theorem ids_rest {n : Nat} {l : List Du} (h : ∀ d ∈ l, d.id ≠ -1) : ∀ d ∈ rest n l, d.id ≠ -1 := fun d hd => h d (List.mem_filter.1 hd).1
/-- The same so much later. -/
def later (s : Nat) (l : List Du) : List Du := l.map (fun d => ⟨d.id, d.at_ + (s : Int)⟩)
theorem later_len (s : Nat) (l : List Du) : (later s l).length = l.length := List.length_map ..
theorem later_setE (s : Nat) (l : List Du) (t : Int) : setE (later s l) t = setE l t := by unfold setE; rw [later_len]
theorem later_setL (s n : Nat) (l : List Du) (id t : Int) : setL (n + s) (later s l) id t = later s (setL n l id t) := by
  unfold setL
  rw [later_setE]
  split
  · unfold later
    rw [List.map_append]
    simp only [List.map_cons, List.map_nil]
    rw [show ((n + s : Nat) : Int) + t = (n : Int) + t + (s : Int) by push_cast; omega]
  · rfl
theorem later_due (s n : Nat) (l : List Du) : due (n + s) (later s l) = due n l := by
  unfold due later
  induction l with
  | nil => rfl
  | cons d l ih =>
    by_cases e : d.at_ ≤ (n : Int) + 1
    · have e2 : d.at_ + (s : Int) ≤ ((n + s : Nat) : Int) + 1 := by push_cast; omega
      simp only [List.map_cons, List.filter_cons, decide_eq_true e, decide_eq_true e2, if_true]
      rw [ih]
    · have e2 : ¬ d.at_ + (s : Int) ≤ ((n + s : Nat) : Int) + 1 := by push_cast; omega
      simp only [List.map_cons, List.filter_cons, decide_eq_false e, decide_eq_false e2, Bool.false_eq_true, if_false]
      exact ih
theorem later_rest (s n : Nat) (l : List Du) : rest (n + s) (later s l) = later s (rest n l) := by
  unfold rest later
  induction l with
  | nil => rfl
  | cons d l ih =>
    by_cases e : d.at_ ≤ (n : Int) + 1
    · have e2 : d.at_ + (s : Int) ≤ ((n + s : Nat) : Int) + 1 := by push_cast; omega
      simp only [List.map_cons, List.filter_cons, decide_eq_true e, decide_eq_true e2, Bool.not_true, Bool.false_eq_true, if_false]
      exact ih
    · have e2 : ¬ d.at_ + (s : Int) ≤ ((n + s : Nat) : Int) + 1 := by push_cast; omega
      simp only [List.map_cons, List.filter_cons, decide_eq_false e, decide_eq_false e2, Bool.not_false, if_true]
      rw [ih]
end Wh
end Go.Peri
