/- Plain facts of layer 24 (opens): what was started is found and finished once; two ends in either order. No program in sight. -/
import Derived.Test.YtefaegoajjcfjaaQ24
namespace Go.Proofs.Ytefaegoajjcfjaa
open Go.RowKit Go.Peri
namespace C24

theorem ix_le (l : List Opn) (no : Int) : ix l no ≤ l.length := List.findIdx_le_length
theorem ix_of (l : List Opn) (no : Int) (k : Nat) (hk : k < l.length) (h1 : l[k].no = no) (h2 : ∀ j (_ : j < k) (hj : j < l.length), l[j].no ≠ no) : ix l no = k := by
  unfold ix
  rw [List.findIdx_eq hk]
  exact ⟨by simpa using h1, fun j hj => by simpa using h2 j hj (by omega)⟩
theorem ix_at (l : List Opn) (no : Int) (h : ix l no < l.length) : l[ix l no].no = no := by
  have := List.findIdx_getElem (p := fun o : Opn => o.no == no) (xs := l) (w := h)
  exact eq_of_beq this
theorem ix_before (l : List Opn) (no : Int) (j : Nat) (h : j < ix l no) (hj : j < l.length) : l[j].no ≠ no := by
  have := List.not_of_lt_findIdx (p := fun o : Opn => o.no == no) (xs := l) (i := j) h
  simpa using this
theorem ix_none (l : List Opn) (no : Int) (h : ∀ j (hj : j < l.length), l[j].no ≠ no) : ix l no = l.length := by
  have h1 := ix_le l no
  rcases Nat.lt_or_ge (ix l no) l.length with h2 | h2
  · exact absurd (ix_at l no h2) (h _ h2)
  · omega
theorem none_of (l : List Opn) (no : Int) (h : ¬ ix l no < l.length) : ∀ j (hj : j < l.length), l[j].no ≠ no := by
  intro j hj
  exact ix_before l no j (by omega) hj

/-- Where it is not, one more stands at the end. -/
theorem ix_snoc (l : List Opn) (no : Int) (s : Sp) (h : ¬ ix l no < l.length) : ix (l ++ [⟨no, s⟩]) no = l.length := by
  refine ix_of _ no l.length (by simp) (by simp) fun j hj hj2 => ?_
  rw [List.getElem_append_left hj]
  exact none_of l no h j hj

theorem back_start (l : List Opn) (no : Int) (s : Sp) (l' : List Opn) (h : startR l no s = (l', 0)) : ¬ ix l no < l.length ∧ l' = l ++ [⟨no, s⟩] ∧ l.length < 256 := by
  unfold startR at h
  split at h
  · simp at h
  · rename_i h1
    split at h
    · simp at h
    · rename_i h2
      simp at h
      exact ⟨h1, h.symm, by omega⟩
theorem back_err (l : List Opn) (no : Int) (s : Sp) (l' : List Opn) (q : Int) (h : startR l no s = (l', q)) (hq : q ≠ 0) : l' = [] := by
  unfold startR at h
  split at h
  · simp at h; exact h.1
  · split at h
    · simp at h; exact h.1
    · simp at h; omega
theorem back_find (l : List Opn) (no : Int) (s : Sp) (h : ¬ ix l no < l.length) : findR (l ++ [⟨no, s⟩]) no = (s, true) := by
  have e := ix_snoc l no s h
  unfold findR
  rw [dif_pos (by rw [e]; simp)]
  simp [e]
theorem back_fin (l : List Opn) (no : Int) (s : Sp) (st ki now : Int) (h : ¬ ix l no < l.length) : finR (l ++ [⟨no, s⟩]) no st ki now = (l, { s with status := st, kids := ki, stop := max now s.start }, 0) := by
  have e := ix_snoc l no s h
  unfold finR
  rw [dif_pos (by rw [e]; simp)]
  simp [e]
theorem back_gone (l : List Opn) (no : Int) (h : ¬ ix l no < l.length) : findR l no = (sp0, false) := dif_neg h
theorem back_none (l : List Opn) (no : Int) (st ki now : Int) (h : ¬ ix l no < l.length) : finR l no st ki now = ([], sp0, 9) := dif_neg h

/-- One is taken out. -/
def cut (l : List Opn) (i : Nat) : List Opn := l.take i ++ l.drop (i + 1)
theorem cut_length (l : List Opn) (i : Nat) (h : i < l.length) : (cut l i).length + 1 = l.length := by
  unfold cut; simp; omega
theorem cut_get (l : List Opn) (i : Nat) (hi : i < l.length) (j : Nat) (hj : j < (cut l i).length) : (cut l i)[j] = if h : j < i then l[j] else l[j + 1]'(by have := cut_length l i hi; omega) := by
  have hl := cut_length l i hi
  unfold cut at hj ⊢
  by_cases h : j < i
  · rw [dif_pos h, List.getElem_append_left (by simp; omega), List.getElem_take]
  · rw [dif_neg h, List.getElem_append_right (by simp; omega), List.getElem_drop]
    congr 1
    simp
    omega
/-- Where the other one stands behind that. -/
theorem ix_cut (l : List Opn) (m n : Int) (hmn : m ≠ n) (hm : ix l m < l.length) (hn : ix l n < l.length) : ix (cut l (ix l m)) n = if ix l n < ix l m then ix l n else ix l n - 1 := by
  have hl := cut_length l _ hm
  have hne : ix l n ≠ ix l m := by
    intro e
    have h1 := ix_at l n hn
    have h2 := ix_at l m hm
    simp only [e] at h1
    exact hmn (h2.symm.trans h1)
  split
  · rename_i hlt
    refine ix_of _ n _ (by omega) ?_ ?_
    · rw [cut_get _ _ hm, dif_pos hlt]; exact ix_at l n hn
    · intro j hj hj2
      rw [cut_get _ _ hm, dif_pos (by omega)]
      exact ix_before l n j hj (by omega)
  · rename_i hge
    refine ix_of _ n _ (by omega) ?_ ?_
    · rw [cut_get _ _ hm, dif_neg (by omega)]
      have := ix_at l n hn
      have e : ix l n - 1 + 1 = ix l n := by omega
      simp only [e]
      exact this
    · intro j hj hj2
      rw [cut_get _ _ hm]
      split
      · exact ix_before l n j (by omega) (by omega)
      · exact ix_before l n (j + 1) (by omega) (by omega)
theorem cut_at (l : List Opn) (m n : Int) (hmn : m ≠ n) (hm : ix l m < l.length) (hn : ix l n < l.length) (h : ix (cut l (ix l m)) n < (cut l (ix l m)).length) : (cut l (ix l m))[ix (cut l (ix l m)) n] = l[ix l n] := by
  have e := ix_cut l m n hmn hm hn
  have hne : ix l n ≠ ix l m := by
    intro e
    have h1 := ix_at l n hn
    have h2 := ix_at l m hm
    simp only [e] at h1
    exact hmn (h2.symm.trans h1)
  rw [cut_get _ _ hm]
  by_cases hlt : ix l n < ix l m
  · rw [if_pos hlt] at e
    simp only [e]
    rw [dif_pos hlt]
  · rw [if_neg hlt] at e
    simp only [e]
    rw [dif_neg (by omega)]
    have e2 : ix l n - 1 + 1 = ix l n := by omega
    simp only [e2]
theorem cut_in (l : List Opn) (m n : Int) (hmn : m ≠ n) (hm : ix l m < l.length) (hn : ix l n < l.length) : ix (cut l (ix l m)) n < (cut l (ix l m)).length := by
  have e := ix_cut l m n hmn hm hn
  have hl := cut_length l _ hm
  have hne : ix l n ≠ ix l m := by
    intro e
    have h1 := ix_at l n hn
    have h2 := ix_at l m hm
    simp only [e] at h1
    exact hmn (h2.symm.trans h1)
  rw [e]
  split <;> omega
theorem cut_cut (l : List Opn) (i j : Nat) (hij : i < j) (hj : j < l.length) : cut (cut l j) i = cut (cut l i) (j - 1) := by
  have h1 := cut_length l j hj
  have h2 := cut_length l i (by omega)
  have h3 := cut_length (cut l j) i (by omega)
  have h4 := cut_length (cut l i) (j - 1) (by omega)
  refine List.ext_getElem (by omega) fun k hk1 hk2 => ?_
  rw [cut_get _ i (by omega), cut_get _ (j - 1) (by omega)]
  by_cases c1 : k < i
  · rw [dif_pos c1, dif_pos (by omega), cut_get _ j hj, cut_get _ i (by omega), dif_pos (by omega), dif_pos c1]
  · rw [dif_neg c1]
    by_cases c2 : k < j - 1
    · rw [dif_pos c2, cut_get _ j hj, cut_get _ i (by omega), dif_pos (by omega), dif_neg c1]
    · rw [dif_neg c2, cut_get _ j hj, cut_get _ i (by omega), dif_neg (by omega), dif_neg (by omega)]
theorem finR_in (l : List Opn) (no st ki now : Int) (h : ix l no < l.length) : finR l no st ki now = (cut l (ix l no), { l[ix l no].sp with status := st, kids := ki, stop := max now l[ix l no].sp.start }, 0) := dif_pos h
theorem finR_zero (l : List Opn) (no st ki now : Int) (l' : List Opn) (s : Sp) (h : finR l no st ki now = (l', s, 0)) : ix l no < l.length := by
  unfold finR at h
  split at h
  · assumption
  · simp at h

/-- In either order it is the same. -/
theorem apart (l : List Opn) (m n x y z : Int) (hmn : m ≠ n) (a b : List Opn) (s t : Sp) (ha : finR l m x y z = (a, s, 0)) (hb : finR l n x y z = (b, t, 0)) :
    ∃ c, finR a n x y z = (c, t, 0) ∧ finR b m x y z = (c, s, 0) ∧ c.length + 2 = l.length := by
  have hm := finR_zero _ _ _ _ _ _ _ ha
  have hn := finR_zero _ _ _ _ _ _ _ hb
  rw [finR_in _ _ _ _ _ hm] at ha
  rw [finR_in _ _ _ _ _ hn] at hb
  simp only [Prod.mk.injEq, and_true] at ha hb
  obtain ⟨rfl, rfl⟩ := ha
  obtain ⟨rfl, rfl⟩ := hb
  have c1 := cut_in l m n hmn hm hn
  have c2 := cut_in l n m (Ne.symm hmn) hn hm
  have e1 := cut_at l m n hmn hm hn c1
  have e2 := cut_at l n m (Ne.symm hmn) hn hm c2
  have l1 := cut_length l _ hm
  have l3 := cut_length _ _ c1
  refine ⟨cut (cut l (ix l m)) (ix (cut l (ix l m)) n), ?_, ?_, by omega⟩
  · rw [finR_in _ _ _ _ _ c1, e1]
  · rw [finR_in _ _ _ _ _ c2, e2]
    congr 1
    have f1 := ix_cut l m n hmn hm hn
    have f2 := ix_cut l n m (Ne.symm hmn) hn hm
    rw [f1, f2]
    have hne : ix l n ≠ ix l m := by
      intro e
      have h1 := ix_at l n hn
      have h2 := ix_at l m hm
      simp only [e] at h1
      exact hmn (h2.symm.trans h1)
    by_cases hlt : ix l n < ix l m
    · rw [if_pos hlt, if_neg (by omega)]
      exact (cut_cut l _ _ hlt hm).symm
    · rw [if_neg hlt, if_pos (by omega)]
      exact cut_cut l _ _ (by omega) hn
end C24
end Go.Proofs.Ytefaegoajjcfjaa
