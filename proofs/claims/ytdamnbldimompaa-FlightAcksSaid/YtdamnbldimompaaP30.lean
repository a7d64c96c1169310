/- Plain law of layer 30 (store). No program in sight. -/
import Derived.Test.YtdamnbldimompaaSp
namespace Go.Peri
/-- A trace that is stored. -/
structure Kp where
  hi : Nat
  lo : Nat
  sp : List Sp
  spilled : Bool
  clash : Bool
deriving DecidableEq
namespace Kp
def zero : Kp := ⟨0, 0, [], false, false⟩
/-- The place of a number among spans. -/
def ixS (l : List Sp) (id : Nat) : Nat := l.findIdx (fun x => decide (x.id = id))
def put (k : Kp) (s : Sp) : Kp :=
  if h : ixS k.sp s.id < k.sp.length then { k with clash := k.clash || !decide (k.sp[ixS k.sp s.id] = s) }
  else if 64 ≤ k.sp.length then { k with spilled := true } else { k with sp := k.sp ++ [s] }
/-- The place of a trace. -/
def ix (l : List Kp) (hi lo : Nat) : Nat := l.findIdx (fun k => decide (k.hi = hi ∧ k.lo = lo))
def has (l : List Kp) (hi lo : Nat) : Bool := decide (ix l hi lo < l.length)
def get (l : List Kp) (hi lo : Nat) : Kp := if h : ix l hi lo < l.length then l[ix l hi lo] else zero
def roomR (r : Int) : Nat := (max 1 (min r 32)).toNat
def fresh (s : Sp) : Kp := ⟨s.hi, s.lo, [s], false, false⟩
def gone (l : List Kp) (r : Int) (s : Sp) : Nat := if has l s.hi s.lo = true then 0 else l.length + 1 - roomR r
def add (l : List Kp) (r : Int) (s : Sp) : List Kp :=
  if h : ix l s.hi s.lo < l.length then l.set (ix l s.hi s.lo) (put l[ix l s.hi s.lo] s) else (l ++ [fresh s]).drop (l.length + 1 - roomR r)
theorem room_lo (r : Int) : 1 ≤ roomR r := by unfold roomR; omega
theorem room_hi (r : Int) : roomR r ≤ 32 := by unfold roomR; omega
theorem put_hi (k : Kp) (s : Sp) : (put k s).hi = k.hi := by
  unfold put
  split
  · rfl
  · split <;> rfl
theorem put_lo (k : Kp) (s : Sp) : (put k s).lo = k.lo := by
  unfold put
  split
  · rfl
  · split <;> rfl
theorem ix_le (l : List Kp) (hi lo : Nat) : ix l hi lo ≤ l.length := List.findIdx_le_length
theorem at_ix {l : List Kp} {hi lo : Nat} (h : ix l hi lo < l.length) : l[ix l hi lo].hi = hi ∧ l[ix l hi lo].lo = lo := by
  have := List.findIdx_getElem (w := h)
  exact of_decide_eq_true this
theorem ix_hit {l : List Kp} {hi lo k : Nat} (hk : k < l.length) (h1 : l[k].hi = hi ∧ l[k].lo = lo) (h2 : ∀ j (_ : j < k) (hj : j < l.length), ¬ (l[j].hi = hi ∧ l[j].lo = lo)) : ix l hi lo = k := by
  unfold ix
  rw [List.findIdx_eq hk]
  exact ⟨decide_eq_true h1, fun j hj => decide_eq_false (h2 j hj (by omega))⟩
theorem ix_before {l : List Kp} {hi lo j : Nat} (h : j < ix l hi lo) (hj : j < l.length) : ¬ (l[j].hi = hi ∧ l[j].lo = lo) := by
  have := List.not_of_lt_findIdx (p := fun k : Kp => decide (k.hi = hi ∧ k.lo = lo)) (xs := l) (i := j) h
  simpa using this
/-- No two are of one trace, no two spans of one have one number, and there are some, but not too many. -/
structure Inv (l : List Kp) (r : Int) : Prop where
  len : l.length ≤ roomR r
  apart : ∀ i j (hi : i < l.length) (hj : j < l.length), i < j → ¬ (l[i].hi = l[j].hi ∧ l[i].lo = l[j].lo)
  some : ∀ k ∈ l, 1 ≤ k.sp.length ∧ k.sp.length ≤ 64
  spans : ∀ k ∈ l, k.sp.Pairwise (fun a b => a.id ≠ b.id)
theorem inv_nil (r : Int) : Inv [] r := ⟨Nat.zero_le _, by simp, by simp, by simp⟩
theorem ixS_none {l : List Sp} {id : Nat} (h : ¬ ixS l id < l.length) : ∀ x ∈ l, x.id ≠ id := by
  intro x hx
  have hl : ixS l id = l.length := by have : ixS l id ≤ l.length := List.findIdx_le_length; omega
  obtain ⟨i, hi, rfl⟩ := List.getElem_of_mem hx
  have := List.not_of_lt_findIdx (p := fun x : Sp => decide (x.id = id)) (xs := l) (i := i) (by unfold ixS at hl; omega)
  simpa using this
theorem put_some {k : Kp} (s : Sp) (h : 1 ≤ k.sp.length ∧ k.sp.length ≤ 64) : 1 ≤ (put k s).sp.length ∧ (put k s).sp.length ≤ 64 := by
  unfold put
  split
  · exact h
  · split
    · exact h
    · simp; omega
theorem put_spans {k : Kp} (s : Sp) (h : k.sp.Pairwise (fun a b => a.id ≠ b.id)) : (put k s).sp.Pairwise (fun a b => a.id ≠ b.id) := by
  unfold put
  split
  · exact h
  · rename_i hx
    split
    · exact h
    · show List.Pairwise _ (k.sp ++ [s])
      rw [List.pairwise_append]
      refine ⟨h, by simp, ?_⟩
      intro a ha b hb
      rw [List.mem_singleton] at hb
      subst hb
      exact ixS_none hx a ha
theorem inv_add {l : List Kp} {r : Int} (h : Inv l r) (s : Sp) : Inv (add l r s) r := by
  unfold add
  split
  · rename_i hx
    have hg : ∀ i (hi : i < (l.set (ix l s.hi s.lo) (put l[ix l s.hi s.lo] s)).length), (l.set (ix l s.hi s.lo) (put l[ix l s.hi s.lo] s))[i].hi = (l[i]'(by simpa using hi)).hi ∧ (l.set (ix l s.hi s.lo) (put l[ix l s.hi s.lo] s))[i].lo = (l[i]'(by simpa using hi)).lo := by
      intro i hi
      rw [List.getElem_set]
      split
      · rename_i e
        subst e
        exact ⟨put_hi _ _, put_lo _ _⟩
      · exact ⟨rfl, rfl⟩
    refine ⟨by rw [List.length_set]; exact h.len, ?_, ?_, ?_⟩
    · intro i j hi hj hij
      rw [(hg i hi).1, (hg i hi).2, (hg j hj).1, (hg j hj).2]
      exact h.apart i j (by simpa using hi) (by simpa using hj) hij
    · intro k hk
      rcases List.mem_or_eq_of_mem_set hk with hk | rfl
      · exact h.some k hk
      · exact put_some s (h.some _ (List.getElem_mem hx))
    · intro k hk
      rcases List.mem_or_eq_of_mem_set hk with hk | rfl
      · exact h.spans k hk
      · exact put_spans s (h.spans _ (List.getElem_mem hx))
  · rename_i hx
    have hn : ∀ i (hi : i < l.length), ¬ (l[i].hi = s.hi ∧ l[i].lo = s.lo) := by
      have hl : ix l s.hi s.lo = l.length := by have : ix l s.hi s.lo ≤ l.length := List.findIdx_le_length; omega
      intro i hi
      exact ix_before (by omega) hi
    have hm : ∀ k ∈ (l ++ [fresh s]).drop (l.length + 1 - roomR r), k ∈ l ∨ k = fresh s := by
      intro k hk
      have := List.mem_of_mem_drop hk
      simpa using this
    refine ⟨?_, ?_, ?_, ?_⟩
    · simp; have := room_lo r; omega
    · intro i j hi hj hij
      rw [List.length_drop, List.length_append] at hi hj
      simp only [List.length_cons, List.length_nil] at hi hj
      rw [List.getElem_drop, List.getElem_drop]
      have hi2 : l.length + 1 - roomR r + i < l.length := by omega
      rw [List.getElem_append_left hi2]
      by_cases hj2 : l.length + 1 - roomR r + j < l.length
      · rw [List.getElem_append_left hj2]
        exact h.apart _ _ hi2 hj2 (by omega)
      · rw [List.getElem_append_right (by omega)]
        simp only [List.getElem_singleton]
        exact hn _ hi2
    · intro k hk
      rcases hm k hk with hk | rfl
      · exact h.some k hk
      · exact ⟨by simp [fresh], by simp [fresh]⟩
    · intro k hk
      rcases hm k hk with hk | rfl
      · exact h.spans k hk
      · simp [fresh]
/-- Behind a span more its trace is there. -/
theorem has_add (l : List Kp) (r : Int) (s : Sp) : has (add l r s) s.hi s.lo = true := by
  unfold has
  rw [decide_eq_true_eq]
  unfold ix
  rw [List.findIdx_lt_length]
  unfold add
  split
  · rename_i hx
    refine ⟨_, List.mem_set hx _, ?_⟩
    rw [decide_eq_true_eq, put_hi, put_lo]
    exact at_ix hx
  · refine ⟨fresh s, ?_, by simp [fresh]⟩
    have hl := room_lo r
    rw [List.drop_append_of_le_length (by omega)]
    simp
theorem len_has {l : List Kp} {r : Int} {s : Sp} (h : has l s.hi s.lo = true) : (add l r s).length = l.length := by
  unfold add
  rw [dif_pos (of_decide_eq_true h), List.length_set]
theorem len_not {l : List Kp} {r : Int} {s : Sp} (h : has l s.hi s.lo = false) : (add l r s).length + gone l r s = l.length + 1 := by
  unfold add gone
  rw [dif_neg (of_decide_eq_false h), h]
  simp
/-- What came once changes nothing when it comes again. -/
theorem again {l : List Kp} {r : Int} {hi' lo' : Nat} (h : ix l hi' lo' < l.length) (s : Sp) (hs : ∃ h0 : 0 < l[ix l hi' lo'].sp.length, s = l[ix l hi' lo'].sp[0]) (e1 : s.hi = hi') (e2 : s.lo = lo') : add l r s = l ∧ gone l r s = 0 := by
  subst e1 e2
  obtain ⟨h0, hs⟩ := hs
  have hx : ixS l[ix l s.hi s.lo].sp s.id = 0 := by
    unfold ixS
    rw [List.findIdx_eq h0]
    refine ⟨?_, fun j hj => absurd hj (Nat.not_lt_zero _)⟩
    rw [decide_eq_true_eq, ← hs]
  refine ⟨?_, ?_⟩
  · unfold add
    rw [dif_pos h]
    have : put l[ix l s.hi s.lo] s = l[ix l s.hi s.lo] := by
      unfold put
      rw [dif_pos (by rw [hx]; exact h0)]
      have e3 : l[ix l s.hi s.lo].sp[ixS l[ix l s.hi s.lo].sp s.id]'(by rw [hx]; exact h0) = s := by
        have e4 : ∀ (q : List Sp) (n : Nat) (hn : n < q.length) (h0 : 0 < q.length), n = 0 → q[n] = q[0] := by
          intro q n hn h0 e
          subst e
          rfl
        exact (e4 _ _ _ h0 hx).trans hs.symm
      rw [decide_eq_true e3]
      simp
    rw [this, List.set_getElem_self]
  · unfold gone
    rw [show has l s.hi s.lo = true from decide_eq_true h]
    rfl
/-- The place hangs on the traces alone. -/
theorem ix_keys {l m : List Kp} (h : l.map (fun k => (k.hi, k.lo)) = m.map (fun k => (k.hi, k.lo))) (hi lo : Nat) : ix l hi lo = ix m hi lo := by
  have e : ∀ l : List Kp, ix l hi lo = (l.map (fun k => (k.hi, k.lo))).findIdx (fun q => decide (q.1 = hi ∧ q.2 = lo)) := by
    intro l
    unfold ix
    rw [List.findIdx_map]
    rfl
  rw [e l, e m, h]
theorem keys_set (l : List Kp) (i : Nat) (hi : i < l.length) (s : Sp) : (l.set i (put l[i] s)).map (fun k => (k.hi, k.lo)) = l.map (fun k => (k.hi, k.lo)) := by
  rw [List.map_set]
  rw [put_hi, put_lo]
  have : ((l[i].hi, l[i].lo) : Nat × Nat) = (l.map (fun k => (k.hi, k.lo)))[i]'(by simpa using hi) := by simp
  rw [this, List.set_getElem_self]
theorem ix_snoc (l : List Kp) (x : Kp) (hi lo : Nat) : ix (l ++ [x]) hi lo = if ix l hi lo < l.length then ix l hi lo else if x.hi = hi ∧ x.lo = lo then l.length else l.length + 1 := by
  unfold ix
  rw [List.findIdx_append]
  split
  · rfl
  · by_cases e : x.hi = hi ∧ x.lo = lo
    · rw [if_pos e, List.findIdx_cons, decide_eq_true e]
      simp
    · rw [if_neg e, List.findIdx_cons, decide_eq_false e]
      simp [Nat.add_comm]
theorem get_same (l : List Kp) (i n : Nat) (x : Kp) (hn : n < (l.set i x).length) (e : n = i) : (l.set i x)[n] = x := by
  subst e
  exact List.getElem_set_self _
theorem get_far (l : List Kp) (i n m : Nat) (x : Kp) (hn : n < (l.set i x).length) (hm : m < l.length) (e : n = m) (h : i ≠ m) : (l.set i x)[n] = l[m] := by
  subst e
  exact List.getElem_set_ne h _
/-- A trace behind a span more, as long as none is gone. -/
theorem get_add {l : List Kp} {r : Int} {s : Sp} (hg : gone l r s = 0) (hi lo : Nat) :
    has (add l r s) hi lo = (has l hi lo || decide (s.hi = hi ∧ s.lo = lo)) ∧ get (add l r s) hi lo = if s.hi = hi ∧ s.lo = lo then (if has l hi lo = true then put (get l hi lo) s else fresh s) else get l hi lo := by
  by_cases h : ix l s.hi s.lo < l.length
  · have hh : has l s.hi s.lo = true := decide_eq_true h
    have ea : add l r s = l.set (ix l s.hi s.lo) (put l[ix l s.hi s.lo] s) := dif_pos h
    have ek := ix_keys (keys_set l _ h s) hi lo
    rw [← ea] at ek
    have el : (add l r s).length = l.length := by rw [ea, List.length_set]
    have e1 : has (add l r s) hi lo = has l hi lo := by unfold has; rw [ek, el]
    by_cases e : s.hi = hi ∧ s.lo = lo
    · obtain ⟨rfl, rfl⟩ := e
      rw [e1, hh]
      refine ⟨by simp, ?_⟩
      rw [if_pos ⟨rfl, rfl⟩, if_pos rfl]
      unfold get
      rw [dif_pos (by rw [ek, el]; exact h), dif_pos h]
      simp only [ea] at ek ⊢
      exact get_same _ _ _ _ _ ek
    · rw [e1, decide_eq_false e, if_neg e]
      refine ⟨by simp, ?_⟩
      unfold get
      by_cases h2 : ix l hi lo < l.length
      · rw [dif_pos (by rw [ek, el]; exact h2), dif_pos h2]
        have hne : ix l s.hi s.lo ≠ ix l hi lo := by
          intro h3
          have a1 := at_ix h
          have a2 := at_ix h2
          simp only [h3] at a1
          exact e ⟨a1.1.symm.trans a2.1, a1.2.symm.trans a2.2⟩
        simp only [ea] at ek ⊢
        exact get_far _ _ _ _ _ _ h2 ek hne
      · rw [dif_neg (by rw [ek, el]; exact h2), dif_neg h2]
  · have hh : has l s.hi s.lo = false := decide_eq_false h
    have hz : l.length + 1 - roomR r = 0 := by
      unfold gone at hg
      rw [hh] at hg
      simpa using hg
    have ea : add l r s = l ++ [fresh s] := by
      unfold add
      rw [dif_neg h, hz, List.drop_zero]
    have ei := ix_snoc l (fresh s) hi lo
    have el := ix_le l hi lo
    by_cases e : s.hi = hi ∧ s.lo = lo
    · obtain ⟨rfl, rfl⟩ := e
      rw [if_neg h, if_pos ⟨rfl, rfl⟩] at ei
      rw [hh, ea]
      refine ⟨?_, ?_⟩
      · unfold has; rw [ei]; simp
      · rw [if_pos ⟨rfl, rfl⟩, if_neg (by simp)]
        unfold get
        rw [dif_pos (by rw [ei]; simp)]
        simp only [ei]
        simp
    · rw [ea, decide_eq_false e, if_neg e, Bool.or_false]
      have e2 : ¬ ((fresh s).hi = hi ∧ (fresh s).lo = lo) := e
      rw [if_neg e2] at ei
      by_cases h2 : ix l hi lo < l.length
      · rw [if_pos h2] at ei
        refine ⟨?_, ?_⟩
        · unfold has; rw [ei, decide_eq_true h2, decide_eq_true (by simp; omega)]
        · unfold get
          rw [dif_pos (by rw [ei]; simp; omega), dif_pos h2]
          simp only [ei]
          rw [List.getElem_append_left h2]
      · rw [if_neg h2] at ei
        refine ⟨?_, ?_⟩
        · unfold has; rw [ei, decide_eq_false h2, decide_eq_false (by simp)]
        · unfold get
          rw [dif_neg (by rw [ei]; simp), dif_neg h2]
end Kp
end Go.Peri
