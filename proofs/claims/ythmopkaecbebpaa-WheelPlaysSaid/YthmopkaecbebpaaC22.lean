/- What a wheel's memory holds (layer 22). No program in sight but its types' numbers. -/
import Derived.Test.YthmopkaecbebpaaProg
import Derived.Test.YthmopkaecbebpaaP22
import Derived.StillTailTactics
import Derived.Laws.LoneSync
namespace Go.Peri
open Go.RowKit
/-- Lists in blocks unlike one another. -/
def Apart (vs : List Value) : Prop := ∀ i j (hi : i < vs.length) (hj : j < vs.length), i ≠ j → Disj (blocks vs[i]) (blocks vs[j])
theorem mem_blocks {vs : List Value} {k : Nat} : k ∈ vs.flatMap blocks ↔ ∃ i, ∃ h : i < vs.length, k ∈ blocks vs[i] := by
  rw [List.mem_flatMap]
  constructor
  · rintro ⟨v, hv, hk⟩
    obtain ⟨i, hi, rfl⟩ := List.mem_iff_getElem.1 hv
    exact ⟨i, hi, hk⟩
  · rintro ⟨i, hi, hk⟩
    exact ⟨_, List.getElem_mem hi, hk⟩
end Go.Peri
namespace Go.Proofs.Ythmopkaecbebpaa
open Go.RowKit Go.Peri
namespace C22
/-- A wheel's parts, in block g: the time n, what is on it, and its slots' lists. -/
structure Parts (w : World) (g n : Nat) (l : List Du) (vs : List Value) : Prop where
  len : vs.length = 16
  blk : Blk w g (Value.int .i64 n :: Value.int .i64 l.length :: vs).toArray 128
  inv : Wh.Inv n l
  own : ∀ i (h : i < vs.length), w.ownsRow (g + 1) 132 2 vs[i] (Wh.row n l i).length ((Wh.row n l i).flatMap Du.enc)
  apart : Apart vs
/-- A wheel; F: its blocks. -/
def WhIs (w : World) (g : Nat) (F : List Nat) (n : Nat) (l : List Du) : Prop := ∃ vs, F = g :: vs.flatMap blocks ∧ Parts w g n l vs
theorem Parts.ge {w : World} {g n : Nat} {l : List Du} {vs : List Value} (h : Parts w g n l vs) : ∀ k, k ∈ g :: vs.flatMap blocks → g ≤ k ∧ k < w.heap.size := by
  intro k hk
  rcases List.mem_cons.1 hk with rfl | hk
  · exact ⟨Nat.le_refl _, h.blk.lt⟩
  · obtain ⟨i, hi, hk⟩ := mem_blocks.1 hk
    have := owns_bd (h.own i hi) k hk
    omega
theorem WhIs.bd {w : World} {g n : Nat} {F : List Nat} {l : List Du} (h : WhIs w g F n l) : ∀ k, k ∈ F → g ≤ k ∧ k < w.heap.size := by
  obtain ⟨vs, rfl, h⟩ := h
  exact h.ge
theorem WhIs.inv {w : World} {g n : Nat} {F : List Nat} {l : List Du} (h : WhIs w g F n l) : Wh.Inv n l := by
  obtain ⟨vs, rfl, h⟩ := h
  exact h.inv
theorem WhIs.only {S : List Nat} {w w' : World} {g n : Nat} {F : List Nat} {l : List Du} (h : WhIs w g F n l) (ho : Only S w w') (hs : Disj F S) : WhIs w' g F n l := by
  obtain ⟨vs, rfl, h⟩ := h
  refine ⟨vs, rfl, h.len, h.blk.only ho (hs g (by simp)), h.inv, fun i hi => owns_keep (h.own i hi) ho ?_, h.apart⟩
  exact fun k hk => hs k (List.mem_cons_of_mem _ (mem_blocks.2 ⟨i, hi, hk⟩))
theorem WhIs.later {w w' : World} {g n : Nat} {F : List Nat} {l : List Du} (h : WhIs w g F n l) (hb : Below w.heap.size w w') : WhIs w' g F n l :=
  h.only (S := []) (Only.of_below hb) (fun k _ hk => by simp at hk)
theorem WhIs.below {w w' : World} {g n : Nat} {F : List Nat} {l : List Du} (h : WhIs w g F n l) (ho : Only F w w') : Below g w w' :=
  ho.below (Nat.le_of_lt (h.bd g (by obtain ⟨vs, rfl, _⟩ := h; simp)).2) (fun k hk => (h.bd k hk).1)
/-- One slot's list has turned. -/
theorem Parts.upd {w w' : World} {g n n' : Nat} {l l' : List Du} {vs : List Value} (h : Parts w g n l vs) (i : Nat) (hi : i < vs.length) (v' : Value)
    (hB : Blk w' g (Value.int .i64 n' :: Value.int .i64 l'.length :: vs.set i v').toArray 128) (hinv : Wh.Inv n' l') (hrow : ∀ j, j < 16 → j ≠ i → Wh.row n' l' j = Wh.row n l j)
    (hown : w'.ownsRow (g + 1) 132 2 v' (Wh.row n' l' i).length ((Wh.row n' l' i).flatMap Du.enc)) (ho : Only (g :: blocks vs[i]) w w') (hm : Moves w.heap.size (blocks vs[i]) (blocks v')) :
    ∃ F', (∀ k, k ∈ F' → k ∈ g :: vs.flatMap blocks ∨ k ∈ blocks v') ∧ Moves w.heap.size (g :: vs.flatMap blocks) F' ∧ WhIs w' g F' n' l' := by
  have hlen := h.len
  refine ⟨g :: (vs.set i v').flatMap blocks, ?_, ?_, vs.set i v', rfl, by simpa using hlen, hB, hinv, ?_, ?_⟩
  · intro k hk
    rcases List.mem_cons.1 hk with rfl | hk
    · exact .inl (by simp)
    · obtain ⟨j, hj, hk⟩ := mem_blocks.1 hk
      rw [List.length_set] at hj
      by_cases e : i = j
      · subst e
        simp only [List.getElem_set_self] at hk
        exact .inr hk
      · rw [List.getElem_set_ne e] at hk
        exact .inl (List.mem_cons_of_mem _ (mem_blocks.2 ⟨_, hj, hk⟩))
  · intro k hk
    rcases List.mem_cons.1 hk with rfl | hk
    · exact .inl (by simp)
    · obtain ⟨j, hj, hk⟩ := mem_blocks.1 hk
      rw [List.length_set] at hj
      by_cases e : i = j
      · subst e
        simp only [List.getElem_set_self] at hk
        rcases hm k hk with h1 | h1
        · exact .inl (List.mem_cons_of_mem _ (mem_blocks.2 ⟨_, hi, h1⟩))
        · exact .inr h1
      · rw [List.getElem_set_ne e] at hk
        exact .inl (List.mem_cons_of_mem _ (mem_blocks.2 ⟨_, hj, hk⟩))
  · intro j hj
    rw [List.length_set] at hj
    by_cases e : i = j
    · subst e
      simp only [List.getElem_set_self]
      exact hown
    · rw [List.getElem_set_ne e, hrow j (by omega) (fun e2 => e e2.symm)]
      refine owns_keep (h.own j hj) ho ?_
      intro k hk hm
      rcases List.mem_cons.1 hm with rfl | hm
      · have := (owns_bd (h.own j hj) _ hk).1
        omega
      · exact h.apart j i hj hi (fun e2 => e e2.symm) k hk hm
  · have one : ∀ j (hj : j < vs.length), j ≠ i → Disj (blocks v') (blocks vs[j]) := by
      intro j hj hne
      refine (h.apart i j hi hj (fun e => hne e.symm)).move (owns_lt (h.own j hj)) hm
    intro a b ha hb hne
    rw [List.length_set] at ha hb
    by_cases ea : i = a
    · subst ea
      rw [List.getElem_set_self, List.getElem_set_ne hne]
      exact one b hb (fun e => hne e.symm)
    · by_cases eb : i = b
      · subst eb
        rw [List.getElem_set_self, List.getElem_set_ne ea]
        exact (one a ha hne).symm
      · rw [List.getElem_set_ne ea, List.getElem_set_ne eb]
        exact h.apart a b ha hb hne
theorem parts_new {w : World} {g : Nat} (h : Blk w g (Value.int .i64 0 :: Value.int .i64 0 :: List.replicate 16 (.slice none 0 0)).toArray 128) : WhIs w g [g] 0 [] := by
  refine ⟨List.replicate 16 (.slice none 0 0), by simp [blocks, Value.ownBlock], by simp, h, Wh.inv_nil 0, ?_, ?_⟩
  · intro i hi
    rw [List.getElem_replicate]
    exact World.ownsRow_nil _ _ _ _
  · intro i j hi hj _ k hk
    rw [List.getElem_replicate] at hk
    simp [blocks, Value.ownBlock] at hk
/-- A slot's list. -/
theorem Parts.form {w : World} {g n : Nat} {l : List Du} {vs : List Value} (h : Parts w g n l vs) (i : Nat) (hi : i < vs.length) :
    ∃ a cap, vs[i] = .slice a (Wh.row n l i).length cap ∧ w.cell? ⟨g, 2 + i, none⟩ = some (.slice a (Wh.row n l i).length cap) := by
  have hf : ∃ a cap, vs[i] = .slice a (Wh.row n l i).length cap := by
    rcases (h.own i hi).2 with ⟨h5, h0⟩ | ⟨gg, cap, cur, h5, _⟩
    · rw [h5, h0]; exact ⟨none, 0, rfl⟩
    · rw [h5]; exact ⟨_, cap, rfl⟩
  obtain ⟨a, cap, e⟩ := hf
  refine ⟨a, cap, e, ?_⟩
  rw [h.blk.cell]
  rw [show 2 + i = i + 1 + 1 by omega]
  simp only [List.getElem?_toArray, List.getElem?_cons_succ]
  rw [List.getElem?_eq_getElem hi, e]
end C22
end Go.Proofs.Ythmopkaecbebpaa
