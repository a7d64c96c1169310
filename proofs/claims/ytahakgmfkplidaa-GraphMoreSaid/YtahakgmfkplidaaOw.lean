/- General lemmas on rows that are owned, each in a block of its own, beside others. No program in sight. -/
import Derived.Test.YtahakgmfkplidaaRw
import Derived.Maps.AppendAt
namespace Go.Peri
open Go.RowKit
/-- No block of F is in G. -/
def Disj (F G : List Nat) : Prop := ∀ k, k ∈ F → k ∉ G
/-- The blocks F' are those of F, or new. -/
def Moves (N : Nat) (F F' : List Nat) : Prop := ∀ k, k ∈ F' → k ∈ F ∨ N ≤ k
/-- The block of a slice. -/
def blocks (v : Value) : List Nat := v.ownBlock.toList
theorem Disj.symm {F G : List Nat} (h : Disj F G) : Disj G F := fun k hk hf => h k hf hk
theorem Disj.move {F G F' : List Nat} {N : Nat} (h : Disj F G) (hG : ∀ k, k ∈ G → k < N) (hm : Moves N F F') : Disj F' G := by
  intro k hk hg
  rcases hm k hk with h1 | h1
  · exact h k h1 hg
  · have := hG k hg; omega
theorem Disj.fresh {F G : List Nat} {N : Nat} (hF : ∀ k, k ∈ F → N ≤ k) (hG : ∀ k, k ∈ G → k < N) : Disj F G := fun k hk hg => by have := hF k hk; have := hG k hg; omega
theorem Moves.refl (N : Nat) (F : List Nat) : Moves N F F := fun _ h => .inl h
theorem Moves.le {N N' : Nat} {F F' : List Nat} (h : Moves N F F') (hn : N' ≤ N) : Moves N' F F' := fun k hk => (h k hk).imp id fun h => Nat.le_trans hn h
theorem Moves.ge {N B : Nat} {F F' : List Nat} (h : Moves N F F') (hF : ∀ k, k ∈ F → B ≤ k) (hN : B ≤ N) : ∀ k, k ∈ F' → B ≤ k := fun k hk => (h k hk).elim (hF k) (Nat.le_trans hN)
theorem owns_keep {S : List Nat} {w w' : World} {base : Nat} {e : TypeId} {size : Nat} {v : Value} {n : Nat} {xs : List Value} (h : w.ownsRow base e size v n xs) (ho : Only S w w') (hs : Disj (blocks v) S) : w'.ownsRow base e size v n xs := by
  obtain ⟨h1, h2⟩ := h
  refine ⟨h1, h2.imp id ?_⟩
  rintro ⟨k, cp, cur, q1, q2, q3, q4⟩
  exact ⟨k, cp, cur, q1, q2, (ho.block k (Array.getElem?_eq_some_iff.1 q3).1 (hs k (by rw [q1]; simp [blocks, Value.ownBlock]))).trans q3, q4⟩
theorem owns_bd {w : World} {base : Nat} {e : TypeId} {size : Nat} {v : Value} {n : Nat} {xs : List Value} (h : w.ownsRow base e size v n xs) : ∀ k, k ∈ blocks v → base ≤ k ∧ k < w.heap.size := by
  intro k hk
  exact h.lt k (by simpa [blocks] using hk)
theorem owns_lt {w : World} {base : Nat} {e : TypeId} {size : Nat} {v : Value} {n : Nat} {xs : List Value} (h : w.ownsRow base e size v n xs) : ∀ k, k ∈ blocks v → k < w.heap.size := fun k hk => (owns_bd h k hk).2
theorem Only.of_grown' {w w' : World} {row : Option Nat} (h : w.grownBy w' row) : Only row.toList w w' :=
  ⟨h.os, h.tape, h.output, h.size, fun k hk hs => h.block k hk (by rintro rfl; simp at hs)⟩
theorem moves_of_own {v v' : Value} {N N' : Nat} (h : v'.ownBlock = v.ownBlock ∨ v'.ownBlock = some N) (hn : N' ≤ N) : Moves N' (blocks v) (blocks v') := by
  intro k hk
  unfold blocks at hk ⊢
  rcases h with h | h
  · rw [h] at hk; exact .inl hk
  · rw [h] at hk; simp at hk; exact .inr (by omega)
section
variable {P : Program}
/-- 'out = append(out, ys...)', and where the new row lies. -/
theorem wpList_pushCells_at {t e : TypeId} {size bytes : Nat} (E : Elem P t e size bytes) {ops : Array Oper} {rest : List Oper} {o : Oper} {a : Act} {Q : Exit → Act → World → Prop} {w : World} (hgd : o.guard = none) (s x : Operand)
    (ho : o.op = .call { callee := .builtin .append, args := #[s, x], argTypes := #[t, t] }) (base : Nat) (v : Value) (n : Nat) (xs : List Value) (hs : a.eval s = v) (hown : w.ownsRow base e size v n xs)
    {p : Nat → Prop} {m : Nat} {vx : Value} {news : List Value} (hx : a.eval x = vx) (hv : Cellz p size w vx m news) (h1 : ∀ u ∈ news, u.oneCell' = true)
    (h63 : n + m ≤ maxLen) (hbytes : (n + m) * bytes ≤ 140737488355328) (hbase : base ≤ w.heap.size)
    (h : ∀ v' w', w'.ownsRow base e size v' (n + m) (xs ++ news) → Only (blocks v) w w' → Moves w.heap.size (blocks v) (blocks v') → wpList P ops Q rest (a.put o.dst v') w') : wpList P ops Q (o :: rest) a w := by
  obtain ⟨hl, ad, cap, rfl, hmc, hcm, hnone, hcell⟩ := hv
  obtain ⟨i, z, hi, hz, hsz, hby, hzs⟩ := E.info
  cases ad with
  | none =>
    have : cap = 0 := hnone rfl
    obtain rfl : m = 0 := by omega
    subst this
    have hn : news = [] := List.length_eq_zero_iff.1 (by simpa using hl)
    subst hn
    refine wpList_append_own_none hgd s x t ho base e i size E.under hi v n xs hs hown hx ?_
    exact h v w (by simpa using hown) (Only.refl _ _) (Moves.refl _ _)
  | some ad =>
    refine wpList_append_own_at _ hgd s x t ho base e i z size bytes E.under hi hz hsz hby hzs E.pos v n xs hs hown ad m cap news hx hl ?_ h1 h63 hbytes hbase ?_
    · intro j u hj
      have hj' := (List.getElem?_eq_some_iff.1 hj).1
      have hm : m ≠ 0 := by rintro rfl; rw [hl] at hj'; simp at hj'
      obtain ⟨b, off, g1, _, g3⟩ := hcell.resolve_left hm
      cases g1
      have e1 : (⟨b, off, none⟩ : Addr).add j = ⟨b, off + j, none⟩ := by
        unfold Addr.add; split
        · rename_i hz; rw [hz]; rfl
        · rfl
      rw [e1, g3 j hj']
      rw [List.getD, hj]
      rfl
    · intro v' w' h2 h3 _ h5
      exact h v' w' h2 (Only.of_grown' h3) (moves_of_own h5 (Nat.le_refl _))
/-- 'out = append(out, x)' where x has just been laid in a block of its own, and where the new row lies. -/
theorem wpList_push_at {t e : TypeId} {size bytes : Nat} (E : Elem P t e size bytes) {ops : Array Oper} {rest : List Oper} {o : Oper} {a : Act} {Q : Exit → Act → World → Prop} {w w0 : World} (hgd : o.guard = none) (s x : Operand)
    (ho : o.op = .call { callee := .builtin .append, args := #[s, x], argTypes := #[t, t] }) (base : Nat) (v : Value) (n : Nat) (xs news : List Value) (hs : a.eval s = v) (hown : w0.ownsRow base e size v n xs) {T : TypeId}
    (hw : w = w0.alloc (.cells news.toArray T)) (hx : a.eval x = .slice (some ⟨w0.heap.size, 0, none⟩) 1 1) (hl : news.length = size) (h1 : ∀ u ∈ news, u.oneCell' = true)
    (h63 : n + 1 ≤ maxLen) (hbytes : (n + 1) * bytes ≤ 140737488355328) (hbase : base ≤ w0.heap.size)
    (h : ∀ v' w', w'.ownsRow base e size v' (n + 1) (xs ++ news) → Only (blocks v) w0 w' → Moves w0.heap.size (blocks v) (blocks v') → wpList P ops Q rest (a.put o.dst v') w') : wpList P ops Q (o :: rest) a w := by
  subst hw
  obtain ⟨i, z, hi, hz, hsz, hby, hzs⟩ := E.info
  refine wpList_append_own_at _ hgd s x t ho base e i z size bytes E.under hi hz hsz hby hzs E.pos v n xs hs (hown.alloc _) ⟨w0.heap.size, 0, none⟩ 1 1 news hx (by omega) ?_ h1 h63 hbytes (by simp; omega) ?_
  · intro j u hj
    have e1 : (⟨w0.heap.size, 0, none⟩ : Addr).add j = ⟨w0.heap.size, j, none⟩ := by
      unfold Addr.add; split
      · rename_i hz; rw [hz]
      · simp
    rw [e1, World.cell?_alloc_new]
    simpa using hj
  · intro v' w' h2 h3 _ h5
    refine h v' w' h2 (((Only.refl _ w0).alloc _).trans (Only.of_grown' h3)) (moves_of_own h5 (by simp))
end
end Go.Peri
