/- General lemmas on slices of structs: a slice that reads as a list of elements of k cells each. No program in sight. General lemmas on rows that are owned, each in a block of its own, beside others. No program in sight. General lemmas: cells of a block written one after another; 'clear(s)'. No program in sight. General lemmas on rows of k cells: one element exchanged, what is owned. No program in sight. Walks of layer 2 (varint): numbers in few bytes, texts with their lengths; no condition. Walks of layer 2 (varint): the document's; texts; no condition. Walks of layer 2 (varint): a number read where its form stands; no condition. Plain law of layer 3 (crc). No program in sight. Walks of layer 3 (crc): a bit, a byte, a text summed; no condition. Headers as plain data, and what cells of them read as. No program in sight. Plain facts of layer 4 (head). No program in sight. Plain facts of layer 4 (head), continued. No program in sight. Walks of layer 3 (crc): texts with their sum behind; no condition. Walks of layer 3 (crc): the document's sums; no condition. Walks of layer 3 (crc): the document's texts with their sum behind; no condition. Walks of layers 1, 2, 9: numbers and names read where they stand; no condition. -/
import Derived.Test.YtcohcanakicmpaaMg01
import Derived.Laws.Cells
import Derived.Maps.AppendAt
import Derived.Laws.IdiomCopy
import Derived.OwnWalk
import Derived.Laws.BitsAllLaws
namespace Go.Peri
open Go.RowKit
section
variable {α : Type}
/-- A slice that reads as a list of elements, k cells each; p says of its block what is known. -/
def RowsOf (p : Nat → Prop) (enc : α → List Value) (k : Nat) (w : World) (v : Value) (l : List α) : Prop :=
  ∃ a cap, v = .slice a l.length cap ∧ l.length ≤ cap ∧ cap ≤ maxLen ∧ (a = none → cap = 0) ∧
    (l = [] ∨ ∃ b off, a = some ⟨b, off, none⟩ ∧ p b ∧ ∀ i (hi : i < l.length) j u, (enc l[i])[j]? = some u → w.cell? ⟨b, off + i * k + j, none⟩ = some u)
theorem RowsOf.imp {p q : Nat → Prop} {enc : α → List Value} {k : Nat} {w : World} {v : Value} {l : List α} (h : RowsOf p enc k w v l) (hpq : ∀ b, p b → q b) : RowsOf q enc k w v l := by
  obtain ⟨a, cap, h1, h2, h3, h4, h5⟩ := h
  exact ⟨a, cap, h1, h2, h3, h4, h5.imp id fun ⟨b, off, g1, g2, g3⟩ => ⟨b, off, g1, hpq b g2, g3⟩⟩
theorem RowsOf.cells {p : Nat → Prop} {enc : α → List Value} {k : Nat} {w w' : World} {v : Value} {l : List α} (h : RowsOf p enc k w v l) (hc : ∀ b o, p b → w'.cell? ⟨b, o, none⟩ = w.cell? ⟨b, o, none⟩) : RowsOf p enc k w' v l := by
  obtain ⟨a, cap, h1, h2, h3, h4, h5⟩ := h
  exact ⟨a, cap, h1, h2, h3, h4, h5.imp id fun ⟨b, off, g1, g2, g3⟩ => ⟨b, off, g1, g2, fun i hi j u hu => (hc b _ g2).trans (g3 i hi j u hu)⟩⟩
theorem RowsOf.below {p : Nat → Prop} {enc : α → List Value} {k B : Nat} {w w' : World} {v : Value} {l : List α} (h : RowsOf p enc k w v l) (ho : Below B w w') (hp : ∀ b, p b → b < B) : RowsOf p enc k w' v l :=
  h.cells fun b o hb => ho.cell (p := ⟨b, o, none⟩) (hp b hb)
theorem RowsOf.only {p : Nat → Prop} {enc : α → List Value} {k : Nat} {S : List Nat} {w w' : World} {v : Value} {l : List α} (h : RowsOf p enc k w v l) (ho : Only S w w') (hp : ∀ b, p b → b < w.heap.size ∧ b ∉ S) : RowsOf p enc k w' v l :=
  h.cells fun b o hb => ho.cell (p := ⟨b, o, none⟩) (hp b hb).1 (hp b hb).2
theorem RowsOf.nil (p : Nat → Prop) (enc : α → List Value) (k : Nat) (w : World) : RowsOf p enc k w (.slice none 0 0) [] := ⟨none, 0, rfl, Nat.le_refl _, Nat.zero_le _, fun _ => rfl, .inl rfl⟩
theorem flat_length {enc : α → List Value} {k : Nat} (hk : ∀ x, (enc x).length = k) : ∀ l : List α, (l.flatMap enc).length = l.length * k
  | [] => by simp
  | x :: l => by rw [List.flatMap_cons, List.length_append, hk, flat_length hk l, List.length_cons, Nat.succ_mul, Nat.add_comm]
theorem flat_get {enc : α → List Value} {k : Nat} (hk : ∀ x, (enc x).length = k) : ∀ (l : List α) (i : Nat) (hi : i < l.length) (j : Nat), j < k → (l.flatMap enc)[i * k + j]? = (enc l[i])[j]?
  | x :: l, 0, _, j, hj => by rw [List.flatMap_cons, Nat.zero_mul, Nat.zero_add, List.getElem?_append_left (by rw [hk]; exact hj)]; rfl
  | x :: l, i + 1, hi, j, hj => by
    rw [List.flatMap_cons, List.getElem?_append_right (by rw [hk, Nat.succ_mul]; omega), hk, show (i + 1) * k + j - k = i * k + j by rw [Nat.succ_mul]; omega]
    exact flat_get hk l i (by simpa using hi) j hj
theorem Cellz.rows {p : Nat → Prop} {enc : α → List Value} {k : Nat} (hk : ∀ x, (enc x).length = k) {w : World} {v : Value} {l : List α} (h : Cellz p k w v l.length (l.flatMap enc)) : RowsOf p enc k w v l := by
  obtain ⟨h0, a, cap, h1, h2, h3, h4, h5⟩ := h
  refine ⟨a, cap, h1, h2, h3, h4, h5.imp List.length_eq_zero_iff.1 ?_⟩
  rintro ⟨b, off, g1, g2, g3⟩
  refine ⟨b, off, g1, g2, fun i hi j u hu => ?_⟩
  have hj : j < k := by have := (List.getElem?_eq_some_iff.1 hu).1; rw [hk] at this; exact this
  have hlt : i * k + j < (l.flatMap enc).length := by
    rw [flat_length hk]
    calc i * k + j < i * k + k := by omega
      _ = (i + 1) * k := (Nat.succ_mul i k).symm
      _ ≤ l.length * k := Nat.mul_le_mul_right _ hi
  have e := flat_get hk l i hi j hj
  rw [hu] at e
  rw [Nat.add_assoc, g3 _ hlt, List.getD, e]
  rfl
theorem RowsOf.cellz {p : Nat → Prop} {enc : α → List Value} {k : Nat} (hk : ∀ x, (enc x).length = k) {w : World} {v : Value} {l : List α} (h : RowsOf p enc k w v l) : Cellz p k w v l.length (l.flatMap enc) := by
  obtain ⟨a, cap, h1, h2, h3, h4, h5⟩ := h
  refine ⟨flat_length hk l, a, cap, h1, h2, h3, h4, h5.imp (fun e => by rw [e]; rfl) ?_⟩
  rintro ⟨b, off, g1, g2, g3⟩
  refine ⟨b, off, g1, g2, fun n hn => ?_⟩
  rw [flat_length hk] at hn
  have hkp : 0 < k := by rcases Nat.eq_zero_or_pos k with e | e; · rw [e] at hn; simp at hn
                         · exact e
  have hi : n / k < l.length := Nat.div_lt_of_lt_mul (by rw [Nat.mul_comm]; exact hn)
  have hj : n % k < k := Nat.mod_lt _ hkp
  have e : n / k * k + n % k = n := by rw [Nat.mul_comm]; exact Nat.div_add_mod n k
  have e2 := flat_get hk l _ hi _ hj
  rw [e] at e2
  have hu : (enc l[n / k])[n % k]? = some ((enc l[n / k])[n % k]'(by rw [hk]; exact hj)) := List.getElem?_eq_getElem _
  have := g3 _ hi _ _ hu
  rw [Nat.add_assoc, e] at this
  rw [this, List.getD, e2, hu]
  rfl
theorem RowsOf.of_owns {enc : α → List Value} {k : Nat} (hk : ∀ x, (enc x).length = k) {w : World} {base : Nat} {e : TypeId} {v : Value} {l : List α} (h : w.ownsRow base e k v l.length (l.flatMap enc)) : RowsOf (fun b => base ≤ b ∧ b < w.heap.size) enc k w v l :=
  (Cellz.of_owns h).rows hk
theorem RowsOf.lt {p : Nat → Prop} {enc : α → List Value} {k : Nat} (hk : ∀ x, (enc x).length = k) (hs : 0 < k) {w : World} {v : Value} {l : List α} (h : RowsOf p enc k w v l) : RowsOf (fun b => p b ∧ b < w.heap.size) enc k w v l :=
  ((h.cellz hk).lt hs).rows hk

/-- The whole element, loaded. -/
theorem RowsOf.load (P : Program) {enc : α → List Value} {k : Nat} (hk : ∀ x, (enc x).length = k) {w : World} {b off : Nat} {l : List α}
    (g3 : ∀ i (hi : i < l.length) j u, (enc l[i])[j]? = some u → w.cell? ⟨b, off + i * k + j, none⟩ = some u) (i : Nat) (hi : i < l.length) :
    Sem.run P (loadCellsFrom ⟨b, off + i * k, none⟩ 0 k #[]) w = .ok (enc l[i]).toArray w :=
  by
  have := run_loadCells_list (P := P) (w := w) ⟨b, off + i * k, none⟩ (enc l[i]) (fun j u hj => by rw [Addr.add_lit]; exact g3 i hi j u hj)
  rw [hk] at this
  simpa [loadCells] using this

/-- What argument slices read as. -/
theorem rows_of_arg {w : World} {B by_ : Nat} {e : Ty} {enc : α → List Value} {wf : α → Prop} (hsz : ∀ x, (enc x).length = e.size)
    (hrd : ∀ cs, Rd w B e cs → ∃ x, cs = enc x ∧ wf x) {v : Value} (h : Arg w B (.slice by_ e) v) :
    ∃ l : List α, RowsOf (· < B) enc e.size w v l ∧ l.length * by_ ≤ 140737488351232 ∧ ∀ x ∈ l, wf x := by
  obtain ⟨a, len, cap, hv, h1, h2, h3, h4, xs, h5, h6, h7⟩ := h
  cases hv
  have hl : ∀ xs : List (List Value), (∀ x ∈ xs, x.length = e.size ∧ Rd w B e x) → ∃ l : List α, xs = l.map enc ∧ ∀ x ∈ l, wf x := by
    intro xs
    induction xs with
    | nil => exact fun _ => ⟨[], rfl, by simp⟩
    | cons x xs ih =>
      intro h
      obtain ⟨l, e1, hw⟩ := ih fun y hy => h y (by simp [hy])
      obtain ⟨y, e2, hy⟩ := hrd x (h x (by simp)).2
      exact ⟨y :: l, by rw [e1, e2]; rfl, by simpa using ⟨hy, hw⟩⟩
  obtain ⟨l, rfl, hw⟩ := hl xs h6
  rw [List.length_map] at h5
  subst h5
  refine ⟨l, ⟨a, cap, rfl, h1, h2, h4, h7.imp List.length_eq_zero_iff.1 ?_⟩, Nat.le_trans (Nat.mul_le_mul_right _ h1) h3, hw⟩
  rintro ⟨b, off, g1, g2, g3⟩
  refine ⟨b, off, g1, g2, fun i hi j u hu => ?_⟩
  have hj : j < e.size := by have := (List.getElem?_eq_some_iff.1 hu).1; rw [hsz] at this; exact this
  have := g3 i j hi hj
  rw [Nat.add_assoc, this]
  simp [hi, hu]
end
end Go.Peri
namespace Go.Peri
open Go.RowKit
/-- No block of F is in G. -/
def Disj (F G : List Nat) : Prop := ∀ k, k ∈ F → k ∉ G
/-- The blocks F' are those of F, or new. -/
def Moves (N : Nat) (F F' : List Nat) : Prop := ∀ k, k ∈ F' → k ∈ F ∨ N ≤ k
/-- The block of a slice. -/
def blocks (v : Value) : List Nat := v.ownBlock.toList
theorem Disj.symm {F G : List Nat} (h : Disj F G) : Disj G F := fun k hk hf => h k hf hk
theorem Disj.move {F G F' : List Nat} {N : Nat} (h : Disj F G) (hG : ∀ k, k ∈ G → k < N) (hm : Moves N F F') : Disj F' G := by
  intro k hk hg
  rcases hm k hk with h1 | h1
  · exact h k h1 hg
  · have := hG k hg; omega
theorem Disj.fresh {F G : List Nat} {N : Nat} (hF : ∀ k, k ∈ F → N ≤ k) (hG : ∀ k, k ∈ G → k < N) : Disj F G := fun k hk hg => by have := hF k hk; have := hG k hg; omega
theorem Moves.refl (N : Nat) (F : List Nat) : Moves N F F := fun _ h => .inl h
theorem Moves.le {N N' : Nat} {F F' : List Nat} (h : Moves N F F') (hn : N' ≤ N) : Moves N' F F' := fun k hk => (h k hk).imp id fun h => Nat.le_trans hn h
theorem Moves.ge {N B : Nat} {F F' : List Nat} (h : Moves N F F') (hF : ∀ k, k ∈ F → B ≤ k) (hN : B ≤ N) : ∀ k, k ∈ F' → B ≤ k := fun k hk => (h k hk).elim (hF k) (Nat.le_trans hN)
theorem owns_keep {S : List Nat} {w w' : World} {base : Nat} {e : TypeId} {size : Nat} {v : Value} {n : Nat} {xs : List Value} (h : w.ownsRow base e size v n xs) (ho : Only S w w') (hs : Disj (blocks v) S) : w'.ownsRow base e size v n xs := by
  obtain ⟨h1, h2⟩ := h
  refine ⟨h1, h2.imp id ?_⟩
  rintro ⟨k, cp, cur, q1, q2, q3, q4⟩
  exact ⟨k, cp, cur, q1, q2, (ho.block k (Array.getElem?_eq_some_iff.1 q3).1 (hs k (by rw [q1]; simp [blocks, Value.ownBlock]))).trans q3, q4⟩
theorem owns_bd {w : World} {base : Nat} {e : TypeId} {size : Nat} {v : Value} {n : Nat} {xs : List Value} (h : w.ownsRow base e size v n xs) : ∀ k, k ∈ blocks v → base ≤ k ∧ k < w.heap.size := by
  intro k hk
  exact h.lt k (by simpa [blocks] using hk)
theorem owns_lt {w : World} {base : Nat} {e : TypeId} {size : Nat} {v : Value} {n : Nat} {xs : List Value} (h : w.ownsRow base e size v n xs) : ∀ k, k ∈ blocks v → k < w.heap.size := fun k hk => (owns_bd h k hk).2
theorem Only.of_grown' {w w' : World} {row : Option Nat} (h : w.grownBy w' row) : Only row.toList w w' :=
  ⟨h.os, h.tape, h.output, h.size, fun k hk hs => h.block k hk (by rintro rfl; simp at hs)⟩
theorem moves_of_own {v v' : Value} {N N' : Nat} (h : v'.ownBlock = v.ownBlock ∨ v'.ownBlock = some N) (hn : N' ≤ N) : Moves N' (blocks v) (blocks v') := by
  intro k hk
  unfold blocks at hk ⊢
  rcases h with h | h
  · rw [h] at hk; exact .inl hk
  · rw [h] at hk; simp at hk; exact .inr (by omega)
section
variable {P : Program}
/-- 'out = append(out, ys...)', and where the new row lies. -/
theorem wpList_pushCells_at {t e : TypeId} {size bytes : Nat} (E : Elem P t e size bytes) {ops : Array Oper} {rest : List Oper} {o : Oper} {a : Act} {Q : Exit → Act → World → Prop} {w : World} (hgd : o.guard = none) (s x : Operand)
    (ho : o.op = .call { callee := .builtin .append, args := #[s, x], argTypes := #[t, t] }) (base : Nat) (v : Value) (n : Nat) (xs : List Value) (hs : a.eval s = v) (hown : w.ownsRow base e size v n xs)
    {p : Nat → Prop} {m : Nat} {vx : Value} {news : List Value} (hx : a.eval x = vx) (hv : Cellz p size w vx m news) (h1 : ∀ u ∈ news, u.oneCell' = true)
    (h63 : n + m ≤ maxLen) (hbytes : (n + m) * bytes ≤ 140737488355328) (hbase : base ≤ w.heap.size)
    (h : ∀ v' w', w'.ownsRow base e size v' (n + m) (xs ++ news) → Only (blocks v) w w' → Moves w.heap.size (blocks v) (blocks v') → wpList P ops Q rest (a.put o.dst v') w') : wpList P ops Q (o :: rest) a w := by
  obtain ⟨hl, ad, cap, rfl, hmc, hcm, hnone, hcell⟩ := hv
  obtain ⟨i, z, hi, hz, hsz, hby, hzs⟩ := E.info
  cases ad with
  | none =>
    have : cap = 0 := hnone rfl
    obtain rfl : m = 0 := by omega
    subst this
    have hn : news = [] := List.length_eq_zero_iff.1 (by simpa using hl)
    subst hn
    refine wpList_append_own_none hgd s x t ho base e i size E.under hi v n xs hs hown hx ?_
    exact h v w (by simpa using hown) (Only.refl _ _) (Moves.refl _ _)
  | some ad =>
    refine wpList_append_own_at _ hgd s x t ho base e i z size bytes E.under hi hz hsz hby hzs E.pos v n xs hs hown ad m cap news hx hl ?_ h1 h63 hbytes hbase ?_
    · intro j u hj
      have hj' := (List.getElem?_eq_some_iff.1 hj).1
      have hm : m ≠ 0 := by rintro rfl; rw [hl] at hj'; simp at hj'
      obtain ⟨b, off, g1, _, g3⟩ := hcell.resolve_left hm
      cases g1
      have e1 : (⟨b, off, none⟩ : Addr).add j = ⟨b, off + j, none⟩ := by
        unfold Addr.add; split
        · rename_i hz; rw [hz]; rfl
        · rfl
      rw [e1, g3 j hj']
      rw [List.getD, hj]
      rfl
    · intro v' w' h2 h3 _ h5
      exact h v' w' h2 (Only.of_grown' h3) (moves_of_own h5 (Nat.le_refl _))
/-- 'out = append(out, x)' where x has just been laid in a block of its own, and where the new row lies. -/
theorem wpList_push_at {t e : TypeId} {size bytes : Nat} (E : Elem P t e size bytes) {ops : Array Oper} {rest : List Oper} {o : Oper} {a : Act} {Q : Exit → Act → World → Prop} {w w0 : World} (hgd : o.guard = none) (s x : Operand)
    (ho : o.op = .call { callee := .builtin .append, args := #[s, x], argTypes := #[t, t] }) (base : Nat) (v : Value) (n : Nat) (xs news : List Value) (hs : a.eval s = v) (hown : w0.ownsRow base e size v n xs) {T : TypeId}
    (hw : w = w0.alloc (.cells news.toArray T)) (hx : a.eval x = .slice (some ⟨w0.heap.size, 0, none⟩) 1 1) (hl : news.length = size) (h1 : ∀ u ∈ news, u.oneCell' = true)
    (h63 : n + 1 ≤ maxLen) (hbytes : (n + 1) * bytes ≤ 140737488355328) (hbase : base ≤ w0.heap.size)
    (h : ∀ v' w', w'.ownsRow base e size v' (n + 1) (xs ++ news) → Only (blocks v) w0 w' → Moves w0.heap.size (blocks v) (blocks v') → wpList P ops Q rest (a.put o.dst v') w') : wpList P ops Q (o :: rest) a w := by
  subst hw
  obtain ⟨i, z, hi, hz, hsz, hby, hzs⟩ := E.info
  refine wpList_append_own_at _ hgd s x t ho base e i z size bytes E.under hi hz hsz hby hzs E.pos v n xs hs (hown.alloc _) ⟨w0.heap.size, 0, none⟩ 1 1 news hx (by omega) ?_ h1 h63 hbytes (by simp; omega) ?_
  · intro j u hj
    have e1 : (⟨w0.heap.size, 0, none⟩ : Addr).add j = ⟨w0.heap.size, j, none⟩ := by
      unfold Addr.add; split
      · rename_i hz; rw [hz]
      · simp
    rw [e1, World.cell?_alloc_new]
    simpa using hj
  · intro v' w' h2 h3 _ h5
    refine h v' w' h2 (((Only.refl _ w0).alloc _).trans (Only.of_grown' h3)) (moves_of_own h5 (by simp))
end
end Go.Peri
namespace Go.Peri
open Go.RowKit
theorem Blk.setCells {t : TypeId} {g : Nat} : ∀ (vs : List Value) (o : Nat) {w : World} {cs : Array Value}, Blk w g cs t → ∃ cs', Blk (w.setCells g o vs) g cs' t ∧ cs'.size = cs.size
  | [], _, _, cs, h => ⟨cs, h, rfl⟩
  | v :: r, o, w, cs, h => by
    obtain ⟨cs', h1, h2⟩ := Blk.setCells r (o + 1) (h.set o v)
    exact ⟨cs', h1, by simpa using h2⟩
theorem Only.setCells {S : List Nat} {a : World} {g : Nat} (hg : g ∈ S) : ∀ (vs : List Value) (o : Nat) {w : World}, Only S a w → Only S a (w.setCells g o vs)
  | [], _, _, h => h
  | v :: r, o, _, h => Only.setCells hg r (o + 1) (h.setCell (p := ⟨g, o, none⟩) hg v)
/-- A block whose first cells are told owns its row. -/
theorem owns_of_blk {w : World} {base g cap : Nat} {e : TypeId} {size n : Nat} {cs : Array Value} {xs : List Value} (h : Blk w g cs e) (hb : base ≤ g) (hc : cs.size = cap * size) (hn : n ≤ cap) (hm : cap ≤ maxLen) (hl : xs.length = n * size) (hx : ∀ i, i < xs.length → cs[i]? = xs[i]?) :
    w.ownsRow base e size (.slice (some ⟨g, 0, none⟩) n cap) n xs := by
  refine ⟨hl, .inr ⟨g, cap, cs, rfl, hb, h, hn, hm, hc, ?_⟩⟩
  refine List.ext_getElem? fun i => ?_
  by_cases hi : i < xs.length
  · rw [List.getElem?_take, if_pos (by omega), Array.getElem?_toList, hx i hi]
  · rw [List.getElem?_take, if_neg (by omega), List.getElem?_eq_none (by omega)]
/-- 'clear(s)'. -/
theorem run_clear_cells {P : Program} {t e : TypeId} {size : Nat} (w : World) (ht : P.underlying t = some (.slice e)) (z : Value) (hv : ∀ w, (zeroValue e).run P w = .ok z w) (hz : z.cells.size = size) (h1 : ∀ v ∈ z.cells.toList, v.oneCell' = true) (b o n c : Nat) (hn : 0 < n)
    (hc : ∀ j, j < n * size → (w.cell? ⟨b, o + j, none⟩).isSome = true) (hf : ∀ j, j < n * size → w.frozen? ⟨b, o + j, none⟩ = false) :
    ∃ zs : List Value, zs.length = n * size ∧ ∀ ty, (Builtin.clear_ #[t] ty #[.slice (some ⟨b, o, none⟩) n c]).run P w = .ok (.tuple #[]) (w.setCells b o zs) := by
  have hlen : (Builtin.zeroCells z.cells n).toList.length = n * size := by rw [Array.length_toList, size_zeroCells, hz]
  have hone : ∀ v ∈ (Builtin.zeroCells z.cells n).toList, v.oneCell' = true := by
    intro v hv
    refine h1 v ?_
    rw [Builtin.zeroCells, Array.toList_map] at hv
    obtain ⟨i, hi, rfl⟩ := List.mem_map.1 hv
    have hi2 : i < n * z.cells.size := by simpa using hi
    have hp : 0 < z.cells.size := by
      rcases Nat.eq_zero_or_pos z.cells.size with h | h
      · rw [h] at hi2; simp at hi2
      · exact h
    have hm : i % z.cells.size < z.cells.size := Nat.mod_lt _ hp
    rw [getElem!_pos z.cells _ hm]
    simp
  refine ⟨_, hlen, fun ty => ?_⟩
  have hst := run_storeCells_cells (P := P) b o (Builtin.zeroCells z.cells n).toList 0 w (by rw [hlen]; simpa using hc) (by rw [hlen]; simpa using hf) hone
  simp only [Nat.add_zero] at hst
  obtain ⟨m, rfl⟩ : ∃ m, n = m + 1 := ⟨n - 1, by omega⟩
  simp [Builtin.clear_, run_underlying ht, hv, hst]
end Go.Peri
namespace Go.Peri
namespace Gen
open Go.RowKit
section
variable {α β : Type}
/-- One cell of a flat list. -/
theorem flat_set {enc : α → List Value} {k : Nat} (hk : ∀ x, (enc x).length = k) : ∀ (l : List α) (i : Nat) (hi : i < l.length) (j : Nat) (u : Value) (x : α), j < k → enc x = (enc l[i]).set j u → (l.flatMap enc).set (i * k + j) u = (l.set i x).flatMap enc
  | y :: l, 0, _, j, u, x, hj, hx => by
    rw [Nat.zero_mul, Nat.zero_add, List.flatMap_cons, List.set_append_left _ _ (by rw [hk]; exact hj), List.set_cons_zero, List.flatMap_cons, hx]
    rfl
  | y :: l, i + 1, hi, j, u, x, hj, hx => by
    rw [List.flatMap_cons, List.set_append_right _ _ (by rw [hk, Nat.succ_mul]; omega), hk, show (i + 1) * k + j - k = i * k + j by rw [Nat.succ_mul]; omega, List.set_cons_succ, List.flatMap_cons]
    congr 1
    exact flat_set hk l i (by simpa using hi) j u x hj hx
theorem set_mid (l1 : List α) (l : List α) (k : Nat) (h1 : l1.length = k) (hk : k < l.length) (x : α) : (l1 ++ l.drop k).set k x = (l1 ++ [x]) ++ l.drop (k + 1) := by
  subst h1
  rw [List.set_append_right _ _ (Nat.le_refl _), Nat.sub_self, List.drop_eq_getElem_cons hk, List.set_cons_zero]
  simp
theorem get_mid (l1 : List α) (l : List α) (k : Nat) (h1 : l1.length = k) (hk : k < l.length) (h : k < (l1 ++ l.drop k).length) : (l1 ++ l.drop k)[k] = l[k] := by
  subst h1
  rw [List.getElem_append_right (Nat.le_refl _)]
  simp
theorem map_take_snoc (f : α → β) (l1 l : List α) (k : Nat) (hk : k < l.length) (x : α) (h : l1.map f = (l.take k).map f) (hx : f x = f l[k]) : (l1 ++ [x]).map f = (l.take (k + 1)).map f := by
  rw [List.take_succ_eq_append_getElem hk, List.map_append, List.map_append, h, List.map_singleton, List.map_singleton, hx]
end
theorem owns_at {w : World} {base : Nat} {e : TypeId} {size n : Nat} {v : Value} {xs : List Value} (h : w.ownsRow base e size v n xs) (hn : 0 < n) : ∃ g cap, v = .slice (some ⟨g, 0, none⟩) n cap ∧ base ≤ g ∧ g < w.heap.size := by
  rcases h.2 with ⟨_, h0⟩ | ⟨g, cap, cur, hv, hb, hg, _⟩
  · omega
  · exact ⟨g, cap, hv, hb, (Array.getElem?_eq_some_iff.1 hg).1⟩
theorem owns_num {w : World} {base : Nat} {e : TypeId} {size : Nat} {v : Value} {n m : Nat} {xs : List Value} (hn : n = m) (h : w.ownsRow base e size v n xs) : w.ownsRow base e size v m xs := hn ▸ h
theorem owns_le {w : World} {base base' : Nat} {e : TypeId} {size : Nat} {v : Value} {n : Nat} {xs : List Value} (h : w.ownsRow base e size v n xs) (hb : base' ≤ base) : w.ownsRow base' e size v n xs :=
  ⟨h.1, h.2.imp id fun ⟨g, cap, cur, h1, h2, h3⟩ => ⟨g, cap, cur, h1, Nat.le_trans hb h2, h3⟩⟩
theorem owns_below {w w' : World} {base : Nat} {e : TypeId} {size : Nat} {v : Value} {n : Nat} {xs : List Value} (h : w.ownsRow base e size v n xs) (hb : Below w.heap.size w w') : w'.ownsRow base e size v n xs :=
  owns_keep h (Only.of_below hb) (by intro k hk h; exact absurd h List.not_mem_nil)
theorem owns_form {w : World} {base : Nat} {e : TypeId} {size : Nat} {v : Value} {n : Nat} {xs : List Value} (h : w.ownsRow base e size v n xs) : ∃ a cap, v = .slice a n cap := by
  rcases h.2 with ⟨rfl, rfl⟩ | ⟨g, cap, cur, hv, _⟩
  · exact ⟨none, 0, rfl⟩
  · exact ⟨_, cap, hv⟩
end Gen
end Go.Peri
namespace Go.Peri
namespace Vi
/-- A number's form. -/
def vl (n : Nat) : List Nat := if n < 128 then [n] else (128 + n % 128) :: vl (n / 128)
termination_by n
decreasing_by omega
theorem vl_small {n : Nat} (h : n < 128) : vl n = [n] := by rw [vl, if_pos h]
theorem vl_great {n : Nat} (h : ¬ n < 128) : vl n = (128 + n % 128) :: vl (n / 128) := by rw [vl, if_neg h]
theorem vl_lt : ∀ (n : Nat), ∀ d ∈ vl n, d < 256 := by
  intro n
  induction n using Nat.strongRecOn with
  | ind n ih =>
    intro d hd
    by_cases h : n < 128
    · rw [vl_small h] at hd; simp at hd; omega
    · rw [vl_great h] at hd
      rcases List.mem_cons.1 hd with e | e
      · omega
      · exact ih (n / 128) (by omega) d e
theorem vl_pos (n : Nat) : 0 < (vl n).length := by
  by_cases h : n < 128
  · rw [vl_small h]; simp
  · rw [vl_great h]; simp
theorem vl_len : ∀ (k n : Nat), n < 128 ^ (k + 1) → (vl n).length ≤ k + 1 := by
  intro k
  induction k with
  | zero => intro n hn; rw [vl_small (by simpa using hn)]; simp
  | succ k ih =>
    intro n hn
    by_cases h : n < 128
    · rw [vl_small h]; simp
    · rw [vl_great h, List.length_cons]
      have := ih (n / 128) (by rw [Nat.div_lt_iff_lt_mul (by decide)]; rw [Nat.pow_succ] at hn; exact hn)
      omega
theorem vl_ten {n : Nat} (h : n < 18446744073709551616) : (vl n).length ≤ 10 := vl_len 9 n (by omega)
end Vi
end Go.Peri
namespace Go.Proofs.Ytcohcanakicmpaa
open Go.RowKit Go.Peri
namespace C02
open C01 (ofNats ofNats_size ofNats_cons)
open Vi (vl)
open Gen (owns_form)
def vB (n : Nat) : ByteArray := ofNats (vl n)
theorem vB_size (n : Nat) : (vB n).size = (vl n).length := ofNats_size _
theorem vB_le {n : Nat} (h : n < 18446744073709551616) : (vB n).size ≤ 10 := by rw [vB_size]; exact Vi.vl_ten h
theorem or128 (m : Nat) : bits .or .u8 ((m : Int) % 256) 128 = ((128 + m % 128 : Nat) : Int) := by
  have h : ∀ x : Fin 256, bits .or .u8 ((x.val : Nat) : Int) 128 = ((128 + x.val % 128 : Nat) : Int) := by decide +kernel
  have := h ⟨m % 256, by omega⟩
  simp only at this
  rw [show ((m : Int) % 256) = ((m % 256 : Nat) : Int) by omega, this]
  omega
theorem elemU : Elem Try.prog 142 5 1 1 := Elem.mk' (z := .int .u8 0) Try.underlying142 (by kernel_rfl) rfl (by decide)
theorem back_own {W : World} {base : Nat} {l : List Nat} (hl : ∀ d ∈ l, d < 256) {a : Option Addr} {n c : Nat} (h : W.ownsRow base 5 1 (.slice a n c) n (C01.bytes l)) (hn : 0 < n) :
    (convert 142 9 (.slice a n c)).run Try.prog W = .ok (.string (ofNats l)) W := by
  have hx := h
  obtain ⟨h1, h2⟩ := h
  have hln : l.length = n := by simpa [C01.bytes] using h1
  rcases h2 with ⟨_, h0⟩ | ⟨g, cp, cur, e, _⟩
  · omega
  cases e
  have hlen : (l.map UInt8.ofNat).length = n := by simpa using hln
  have := run_convert_bytes_back (P := Try.prog) W 142 9 5 ⟨g, 0, none⟩ c (l.map UInt8.ofNat) Try.underlying142 Try.underlying5 Try.underlying9 (fun j hj => by
    have hj' : j < l.length := by simpa using hj
    have e1 : (⟨g, 0, none⟩ : Addr).add j = ⟨g, j, none⟩ := by
      unfold Addr.add; split
      · rename_i hz; rw [hz]
      · simp
    rw [e1, hx.cellAt j (by simpa [hln] using hj')]
    have hd := hl (l[j]) (List.getElem_mem hj')
    simp [C01.bytes, hj']
    omega)
  rw [hlen] at this
  exact this
theorem bytes_snoc (l : List Nat) (d : Nat) : C01.bytes l ++ [.int .u8 (d : Int)] = C01.bytes (l ++ [d]) := by simp [C01.bytes]
set_option maxRecDepth 100000 in
set_option maxHeartbeats 2000000 in
theorem vput_any (n : Nat) (W : World) (hn : n < 18446744073709551616) : Calls Try.prog 83 #[.int .u64 n] W fun e w' => e = .returned (.string (vB n)) ∧ Below W.heap.size W w' := by
  go_enter Try.func83, Try.ntmps83
  go_wp2_with fail
  go_loopw [0, 3] (fun s0 s3 wr => ∃ (m : Nat) (acc : List Nat), s0 = .int .u64 m ∧ Hid (Below W.heap.size W wr) ∧ Hid (acc ++ vl m = vl n) ∧ Hid (m ≤ n) ∧ Hid (wr.ownsRow W.heap.size 5 1 s3 acc.length (C01.bytes acc))) (fun i _ _ => (intOf i).toNat)
  case atStart => exact ⟨n, [], rfl, hid (Below.refl _ _), hid rfl, hid (Nat.le_refl _), hid (World.ownsRow_nil _ _ _ _)⟩
  case round =>
    obtain ⟨m, acc, rfl, HB, HA, HM, HO⟩ := hrel
    have hmn := HM.out
    have hlen : acc.length + (vl m).length ≤ 10 := by
      have := Vi.vl_ten hn
      rw [← HA.out, List.length_append] at this
      exact this
    have hpos := Vi.vl_pos m
    have hsz := HB.out.size
    by_cases hm : m < 128
    · have h1 : ¬ (128 : Int) ≤ (m : Int) := by omega
      have HE : Hid (acc ++ [m] = vl n) := hid (by rw [← HA.out, Vi.vl_small hm])
      have hmod : (m : Int) % 256 = (m : Int) := by omega
      have h63 : acc.length + 1 ≤ maxLen := by unfold maxLen; omega
      have hby : (acc.length + 1) * 1 ≤ 140737488355328 := by omega
      clear hpos
      go_wp2_with (at_builtin; refine wpList_push elemU rfl _ _ rfl W.heap.size _ _ _ [.int .u8 (m : Int)] rfl HO.out rfl rfl rfl (by simp [Value.oneCell']) h63 hby hsz ?_)
      intro v2 w2 hown2 hb2
      obtain ⟨a2, c2, rfl⟩ := owns_form hown2
      have HB2 := hid (HB.out.trans hb2)
      rw [bytes_snoc, HE.out] at hown2
      have hcv := back_own (Vi.vl_lt n) hown2 (by omega)
      clear hown2 hb2 HO
      go_wp2_with fail
      go_ret
      exact ⟨rfl, HB2.out⟩
    · have h1 : (128 : Int) ≤ (m : Int) := by omega
      have HE : Hid ((acc ++ [128 + m % 128]) ++ vl (m / 128) = vl n) := hid (by rw [← HA.out, Vi.vl_great hm]; simp)
      have hor := or128 m
      rw [show ((128 + m % 128 : Nat) : Int) = 128 + (m : Int) % 128 by omega] at hor
      have h63 : acc.length + 1 ≤ maxLen := by unfold maxLen; omega
      have hby : (acc.length + 1) * 1 ≤ 140737488355328 := by omega
      clear hpos
      go_wp2_with (at_builtin; refine wpList_push elemU rfl _ _ rfl W.heap.size _ _ _ [.int .u8 (128 + (m : Int) % 128)] rfl HO.out rfl rfl rfl (by simp [Value.oneCell']) h63 hby hsz ?_)
      intro v2 w2 hown2 hb2
      have HB2 := hid (HB.out.trans hb2)
      rw [show (128 + (m : Int) % 128) = ((128 + m % 128 : Nat) : Int) by omega, bytes_snoc] at hown2
      have HO2 : Hid (w2.ownsRow W.heap.size 5 1 v2 (acc ++ [128 + m % 128]).length (C01.bytes (acc ++ [128 + m % 128]))) := hid (by simpa using hown2)
      clear hown2 hb2 HO
      go_wp2_with fail
      go_roundw
      case rel => exact ⟨m / 128, acc ++ [128 + m % 128], by go_num, HB2, HE, hid (by omega), HO2⟩
      case measure => simp [intOf]; omega
end C02
end Go.Proofs.Ytcohcanakicmpaa
namespace Go.Proofs.Ytcohcanakicmpaa
open Go.RowKit Go.Peri
namespace C02
open C01 (ofNats ofNats_size ofNats_cons)
open Vi (vl)
theorem cat_size (a b : ByteArray) : (a ++ b).size = a.size + b.size := ByteArray.size_append
set_option maxRecDepth 100000 in
theorem vtext_any (s : ByteArray) (W : World) (hs : s.size ≤ 1000000000000) : Calls Try.prog 85 #[.string s] W fun e w' => e = .returned (.string (vB s.size ++ s)) ∧ Below W.heap.size W w' := by
  have X := hid (vput_any s.size W (by omega))
  have hz : (vB s.size).size ≤ 10 := vB_le (by omega)
  have hmod : (s.size : Int) % 18446744073709551616 = (s.size : Int) := by omega
  have hlen : ((vB s.size).size : Int) + (s.size : Int) ≤ 9223372036854775807 := by omega
  go_enter Try.func85, Try.ntmps85
  go_wp2_with fail
  refine X.out.mono ?_
  rintro e w1 ⟨rfl, hb1⟩
  have HB1 := hid hb1
  clear hb1
  go_wp2_with fail
  go_ret
  exact ⟨rfl, HB1.out⟩
set_option maxRecDepth 100000 in
theorem rvput_any (n : Nat) (W : World) (hn : n < 18446744073709551616) : Calls Try.prog 41 #[.int .u64 n] W fun e w' => e = .returned (.string (vB n)) ∧ Below W.heap.size W w' := by
  induction n using Nat.strongRecOn generalizing W with
  | ind n ih =>
    by_cases h : n < 128
    · have h1 : (n : Int) < 128 := by omega
      have X := hid (C01.byte_any n W hn)
      have HE : Hid (ofNats [n % 256] = vB n) := hid (by unfold vB; rw [Vi.vl_small h, Nat.mod_eq_of_lt (by omega)])
      clear ih
      go_enter Try.func41, Try.ntmps41
      go_wp2_with fail
      refine X.out.mono ?_
      rintro e w1 ⟨rfl, hb1⟩
      have HB1 := hid hb1
      clear hb1
      go_wp2_with fail
      go_ret
      exact ⟨by rw [← HE.out]; rfl, HB1.out⟩
    · have h1 : ¬ (n : Int) < 128 := by omega
      have hrem : (n : Int).tmod 128 = (n : Int) % 128 := by rw [Int.tmod_eq_emod_of_nonneg (by omega)]
      have hquo : (n : Int).tdiv 128 = (n : Int) / 128 := by rw [Int.tdiv_eq_ediv_of_nonneg (by omega)]
      have hwr : IntKind.u64.wrap (128 + (n : Int) % 128) = 128 + (n : Int) % 128 := by rw [IntKind.wrap_u64]; omega
      have X := hid (C01.byte_any (128 + n % 128) W (by omega))
      rw [show ((128 + n % 128 : Nat) : Int) = 128 + (n : Int) % 128 by omega] at X
      have Y := hid (fun w => ih (n / 128) (by omega) w (by omega))
      rw [show ((n / 128 : Nat) : Int) = (n : Int) / 128 by omega] at Y
      have HE : Hid (ofNats [(128 + n % 128) % 256] ++ vB (n / 128) = vB n) := hid (by
        unfold vB
        rw [Vi.vl_great h, Nat.mod_eq_of_lt (by omega), ofNats_cons])
      have hz : (vB (n / 128)).size ≤ 10 := vB_le (by omega)
      have hz1 : (ofNats [(128 + n % 128) % 256]).size = 1 := by rw [ofNats_size]; rfl
      generalize ofNats [(128 + n % 128) % 256] = b1 at X HE hz1
      generalize vB (n / 128) = b2 at Y HE hz
      have hlen : (b1.size : Int) + (b2.size : Int) ≤ 9223372036854775807 := by omega
      clear ih
      go_enter Try.func41, Try.ntmps41
      go_wp2_with fail
      refine X.out.mono ?_
      rintro e w1 ⟨rfl, hb1⟩
      have HB1 := hid hb1
      clear hb1
      go_wp2_with fail
      refine (Y.out _).mono ?_
      rintro e w2 ⟨rfl, hb2⟩
      have HB2 := hid (HB1.out.trans (hb2.mono HB1.out.size))
      clear hb2
      go_wp2_with fail
      go_ret
      exact ⟨by rw [← HE.out]; rfl, HB2.out⟩
set_option maxRecDepth 100000 in
theorem rvtext_any (s : ByteArray) (W : World) (hs : s.size ≤ 1000000000000) : Calls Try.prog 69 #[.string s] W fun e w' => e = .returned (.string (vB s.size ++ s)) ∧ Below W.heap.size W w' := by
  have X := hid (rvput_any s.size W (by omega))
  have hz : (vB s.size).size ≤ 10 := vB_le (by omega)
  have hmod : (s.size : Int) % 18446744073709551616 = (s.size : Int) := by omega
  have hlen : ((vB s.size).size : Int) + (s.size : Int) ≤ 9223372036854775807 := by omega
  go_enter Try.func69, Try.ntmps69
  go_wp2_with fail
  refine X.out.mono ?_
  rintro e w1 ⟨rfl, hb1⟩
  have HB1 := hid hb1
  clear hb1
  go_wp2_with fail
  go_ret
  exact ⟨rfl, HB1.out⟩
end C02
end Go.Proofs.Ytcohcanakicmpaa
namespace Go.Peri
namespace Vi
/-- The text has these bytes from a place on. -/
def AtB (s : ByteArray) (i : Nat) (l : List Nat) : Prop := ∀ j (hj : j < l.length), ∃ h : i + j < s.size, (s[i + j]'h).toNat = l[j]
theorem AtB.room {s : ByteArray} {i : Nat} {l : List Nat} (h : AtB s i l) (hi : i ≤ s.size) : i + l.length ≤ s.size := by
  by_cases h0 : l.length = 0
  · omega
  · obtain ⟨h1, _⟩ := h (l.length - 1) (by omega)
    omega
theorem AtB.right {s : ByteArray} {i : Nat} {l m : List Nat} (h : AtB s i (l ++ m)) : AtB s (i + l.length) m := by
  intro j hj
  obtain ⟨h1, h2⟩ := h (l.length + j) (by simp; omega)
  refine ⟨by omega, ?_⟩
  have e : i + l.length + j = i + (l.length + j) := by omega
  have : (s[i + l.length + j]'(by omega)) = s[i + (l.length + j)]'h1 := by congr 1
  rw [this, h2]
  simp
theorem AtB.left {s : ByteArray} {i : Nat} {l m : List Nat} (h : AtB s i (l ++ m)) : AtB s i l := by
  intro j hj
  obtain ⟨h1, h2⟩ := h j (by simp; omega)
  exact ⟨h1, by rw [h2, List.getElem_append_left hj]⟩
theorem drop_vl_cons {l : List Nat} {i m : Nat} (hi : i < l.length) (h : l.drop i = vl m) : (m < 128 → l[i] = m ∧ l.length = i + 1) ∧ (¬ m < 128 → l[i] = 128 + m % 128 ∧ l.drop (i + 1) = vl (m / 128) ∧ i + 1 < l.length) := by
  rw [List.drop_eq_getElem_cons hi] at h
  constructor
  · intro hm
    rw [vl_small hm] at h
    have h1 := (List.cons.inj h).1
    have h2 := congrArg List.length (List.cons.inj h).2
    simp at h2
    exact ⟨h1, by omega⟩
  · intro hm
    rw [vl_great hm] at h
    obtain ⟨h1, h2⟩ := List.cons.inj h
    have h3 := congrArg List.length h2
    have h4 := vl_pos (m / 128)
    simp at h3
    exact ⟨h1, h2, by omega⟩
end Vi
end Go.Peri
namespace Go.Proofs.Ytcohcanakicmpaa
open Go.RowKit Go.Peri
namespace C02
open C01 (ofNats ofNats_size ofNats_cons)
open Vi (vl AtB)
theorem str_at (s : ByteArray) (k : Nat) (h : k < s.size) (W : World) : (Instr.index 9 (.string s) (.int .i64 (k : Int))).run Try.prog W = .ok (.int .u8 ((s[k]'h).toNat : Nat)) W := by
  simp [go_sem, h, Try.underlying9]
theorem pow_le {i : Nat} (hi : i < 7) : 128 ^ i ≤ 4398046511104 := by
  have : i = 0 ∨ i = 1 ∨ i = 2 ∨ i = 3 ∨ i = 4 ∨ i = 5 ∨ i = 6 := by omega
  rcases this with rfl | rfl | rfl | rfl | rfl | rfl | rfl <;> decide
set_option maxRecDepth 100000 in
set_option maxHeartbeats 4000000 in
theorem rget_any (s : ByteArray) (at_ N : Nat) (W : World) (hs : s.size ≤ 1000000000000) (hN : N < 562949953421312) (hat : AtB s at_ (vl N)) :
    Calls Try.prog 57 #[.string s, .int .i64 at_] W fun e w' => e = .returned (.tuple #[.int .u64 N, .int .i64 (at_ + (vl N).length : Nat), .int .i64 0]) ∧ W = w' := by
  have hl7 : (vl N).length ≤ 7 := Vi.vl_len 6 N (by omega)
  have hpos := Vi.vl_pos N
  have hroom : at_ + (vl N).length ≤ s.size := by
    obtain ⟨h1, _⟩ := hat 0 hpos
    exact hat.room (by omega)
  obtain ⟨l, hl⟩ : ∃ l, l = vl N := ⟨_, rfl⟩
  rw [← hl] at hat hl7 hpos hroom ⊢
  have HAT := hid hat
  have HL := hid hl
  clear hat hl
  go_enter Try.func57, Try.ntmps57
  go_wp2_with fail
  go_loopw [7, 8, 9] (fun s7 s8 s9 wr => W = wr ∧ ∃ (i m a p : Nat), i < l.length ∧ s9 = .int .i64 i ∧ s7 = .int .u64 a ∧ s8 = .int .u64 p ∧ Hid (l.drop i = vl m) ∧ Hid (p = 128 ^ i) ∧ Hid (a + p * m = N) ∧ Hid (0 < i → 0 < m)) (fun _ _ i _ => l.length - (intOf i).toNat)
  case atStart => exact ⟨rfl, 0, N, 0, 1, hpos, rfl, rfl, rfl, hid (by rw [← HL.out]; rfl), hid rfl, hid (by omega), hid (fun h => by omega)⟩
  case round =>
    obtain ⟨rfl, i, m, a, p, hi, rfl, rfl, rfl, HD, HP, HA, HZ⟩ := hrel
    obtain ⟨hk, hv⟩ := HAT.out i hi
    have hc := Vi.drop_vl_cons hi HD.out
    have hpp := pow_le (i := i) (by omega)
    rw [← HP.out] at hpp
    have hadd : IntKind.i64.wrap ((at_ : Int) + (i : Int)) = ((at_ + i : Nat) : Int) := by rw [IntWalk.i64_in _ (by omega)]; omega
    have hg1 : ¬ (s.size : Int) ≤ (at_ : Int) := by omega
    have hsub : IntKind.i64.wrap ((s.size : Int) - (at_ : Int)) = (s.size : Int) - (at_ : Int) := IntWalk.i64_in _ (by omega)
    have hg2 : ¬ (s.size : Int) - (at_ : Int) ≤ (i : Int) := by omega
    have hi10 : (i : Int) < 10 := by omega
    have hi9 : ((i : Int) == 9) = false := by rw [beq_eq_false_iff_ne]; omega
    by_cases hm : m < 128
    · obtain ⟨e1, e2⟩ := hc.1 hm
      rw [e1] at hv
      have hb : (m : Int) < 128 := by omega
      have hpm : p * m ≤ N := by have := HA.out; omega
      obtain ⟨q, hq⟩ : ∃ q, q = p * m := ⟨_, rfl⟩
      have hq2 : (p : Int) * (m : Int) = (q : Int) := by rw [hq]; simp
      have hN2 : Hid (a + q = N) := hid (by rw [hq]; exact HA.out)
      rw [← hq] at hpm
      have hwm : IntKind.u64.wrap (m : Int) = (m : Int) := IntWalk.u64_in _ (by omega)
      have hw1 : IntKind.u64.wrap (q : Int) = (q : Int) := IntWalk.u64_in _ (by omega)
      have haN : a + q ≤ 562949953421312 := by have := hN2.out; omega
      have hw2 : IntKind.u64.wrap ((a : Int) + (q : Int)) = (a : Int) + (q : Int) := IntWalk.u64_in _ (by omega)
      have hres : Hid (((a : Int) + (q : Int)) = (N : Int) ∧ (at_ : Int) + (i : Int) + 1 = ((at_ + l.length : Nat) : Int)) := hid ⟨by have := hN2.out; omega, by omega⟩
      have HV := hid hv
      by_cases h0 : m = 0
      · have hi0 : ¬ (0 : Int) < (i : Int) := fun h => by have := HZ.out; omega
        have hz : Hid ((q : Int) = 0) := hid (by rw [hq, h0]; simp)
        have h00 : ((m : Int) == 0) = true := by rw [h0]; rfl
        clear hc hq e1 h0
        go_wp2_with fail
        go_ret3
        exact ⟨by rw [hres.out.1, hres.out.2]; rfl, rfl⟩
      · have h01 : ((m : Int) == 0) = false := by rw [beq_eq_false_iff_ne]; omega
        clear hc hq e1
        go_wp2_with fail
        go_ret3
        exact ⟨by rw [hres.out.1, hres.out.2]; rfl, rfl⟩
    · obtain ⟨e1, e2, e3⟩ := hc.2 hm
      rw [e1] at hv
      obtain ⟨b, hbd⟩ : ∃ b, b = 128 + m % 128 := ⟨_, rfl⟩
      rw [← hbd] at hv
      have hb : ¬ (b : Int) < 128 := by omega
      obtain ⟨q, hq⟩ : ∃ q, q = p * (m % 128) := ⟨_, rfl⟩
      have hb2 : IntKind.u64.wrap ((b : Int) - 128) = (m : Int) % 128 := by rw [IntWalk.u64_in _ (by omega)]; omega
      have hq2 : (p : Int) * ((m : Int) % 128) = (q : Int) := by rw [hq, Int.natCast_mul, Int.natCast_emod]; rfl
      have hqN : q ≤ p * m := by rw [hq]; exact Nat.mul_le_mul_left _ (Nat.mod_le _ _)
      have hA := HA.out
      have hwm : IntKind.u64.wrap (b : Int) = (b : Int) := IntWalk.u64_in _ (by omega)
      have hw1 : IntKind.u64.wrap (q : Int) = (q : Int) := IntWalk.u64_in _ (by omega)
      have hw2 : IntKind.u64.wrap ((a : Int) + (q : Int)) = (a : Int) + (q : Int) := IntWalk.u64_in _ (by omega)
      have hw3 : IntKind.u64.wrap ((p : Int) * 128) = (p : Int) * 128 := IntWalk.u64_in _ (by omega)
      have HR : Hid ((a + q) + (p * 128) * (m / 128) = N) := hid (by
        rw [← hA, hq, Nat.mul_assoc, Nat.add_assoc, ← Nat.mul_add]
        congr 2
        omega)
      have HD2 := hid e2
      have HM2 : Hid (0 < i + 1 → 0 < m / 128) := hid (fun _ => by omega)
      have HP2 : Hid (p * 128 = 128 ^ (i + 1)) := hid (by rw [HP.out, Nat.pow_succ])
      clear hc hq e1 e2 hA hqN hbd HA HD HP HZ
      go_wp2_with fail
      go_roundw
      case rel => exact ⟨by first | rfl | trivial, i + 1, m / 128, a + q, p * 128, e3, by go_num, by go_num, by go_num, HD2, HP2, HR, HM2⟩
      case measure => simp [intOf]; omega
end C02
end Go.Proofs.Ytcohcanakicmpaa
namespace Go.Peri
namespace Crc
def turn : Nat := 3988292384
/-- A bit falls out of a sum. -/
def shift (n : Nat) : Nat := if n % 2 = 1 then (n >>> 1) ^^^ turn else n >>> 1
def shifts : Nat → Nat → Nat
  | 0, n => n
  | k + 1, n => shift (shifts k n)
def step (n : Nat) : Nat := shifts 8 n
def bit (n : Nat) : Nat := if n % 2 = 1 then turn else 0
theorem shift_eq (n : Nat) : shift n = (n >>> 1) ^^^ bit n := by
  unfold shift bit
  split <;> simp
theorem bit_xor (a b : Nat) : bit (a ^^^ b) = bit a ^^^ bit b := by
  have h : (a ^^^ b) % 2 = (a % 2 + b % 2) % 2 := by
    have := Nat.testBit_xor a b 0
    simp only [Nat.testBit_zero] at this
    have h1 := Nat.mod_two_eq_zero_or_one a
    have h2 := Nat.mod_two_eq_zero_or_one b
    have h3 := Nat.mod_two_eq_zero_or_one (a ^^^ b)
    rcases h1 with h1 | h1 <;> rcases h2 with h2 | h2 <;> rcases h3 with h3 | h3 <;> simp [h1, h2, h3] at this ⊢
  unfold bit
  rcases Nat.mod_two_eq_zero_or_one a with h1 | h1 <;> rcases Nat.mod_two_eq_zero_or_one b with h2 | h2 <;> simp [h, h1, h2]
theorem shift_xor (a b : Nat) : shift (a ^^^ b) = shift a ^^^ shift b := by
  rw [shift_eq, shift_eq, shift_eq, bit_xor, Nat.shiftRight_xor_distrib]
  simp only [Nat.xor_assoc]
  congr 1
  rw [← Nat.xor_assoc, ← Nat.xor_assoc, Nat.xor_comm (bit a)]
theorem shifts_xor (a b : Nat) : ∀ k, shifts k (a ^^^ b) = shifts k a ^^^ shifts k b
  | 0 => rfl
  | k + 1 => by show shift (shifts k _) = _; rw [shifts_xor a b k, shift_xor]; rfl
theorem step_xor (a b : Nat) : step (a ^^^ b) = step a ^^^ step b := shifts_xor a b 8
theorem shift_lt {n : Nat} (h : n < 4294967296) : shift n < 4294967296 := by
  unfold shift
  have h1 : n >>> 1 < 2 ^ 32 := by rw [Nat.shiftRight_eq_div_pow]; omega
  split
  · exact Nat.xor_lt_two_pow h1 (by decide)
  · exact h1
theorem shifts_lt {n : Nat} (h : n < 4294967296) : ∀ k, shifts k n < 4294967296
  | 0 => h
  | k + 1 => shift_lt (shifts_lt h k)
theorem step_lt {n : Nat} (h : n < 4294967296) : step n < 4294967296 := shifts_lt h 8
/-- Bits that fall out as zeros turn nothing. -/
theorem shifts_high (n : Nat) : ∀ k j, k ≤ j → shifts k (n * 2 ^ j) = n * 2 ^ (j - k)
  | 0, j, _ => by simp [shifts]
  | k + 1, j, h => by
    show shift (shifts k _) = _
    rw [shifts_high n k j (by omega)]
    have e : n * 2 ^ (j - k) = 2 * (n * 2 ^ (j - (k + 1))) := by
      rw [show j - k = (j - (k + 1)) + 1 by omega, Nat.pow_succ]
      rw [Nat.mul_comm (2 ^ _) 2, ← Nat.mul_assoc, Nat.mul_comm n 2, Nat.mul_assoc]
    rw [e]
    generalize n * 2 ^ (j - (k + 1)) = m
    unfold shift
    rw [if_neg (by omega), Nat.shiftRight_eq_div_pow]
    omega
theorem low_high (n : Nat) : n = (n / 256 * 256) ^^^ (n % 256) := by
  have h : n / 256 * 256 + n % 256 = n := by have := Nat.div_add_mod n 256; omega
  have e : (n / 256 * 256) ^^^ (n % 256) = n / 256 * 256 + n % 256 := by
    apply Nat.eq_of_testBit_eq
    intro i
    have hm : n % 256 < 2 ^ 8 := Nat.mod_lt _ (by decide)
    rw [Nat.testBit_xor]
    have e1 : n / 256 * 256 = 2 ^ 8 * (n / 256) := Nat.mul_comm _ _
    rw [e1, Nat.testBit_two_pow_mul_add _ hm, Nat.testBit_two_pow_mul]
    by_cases hi : i < 8
    · have : ¬ 8 ≤ i := by omega
      simp [hi, this]
    · have h8 : 8 ≤ i := by omega
      simp only [hi, if_false, h8, decide_true, Bool.true_and]
      rw [Nat.testBit_lt_two_pow (Nat.lt_of_lt_of_le hm (Nat.pow_le_pow_right (by decide) h8)), Bool.xor_false]
  rw [e, h]
/-- A table's step. -/
theorem step_table (sum b : Nat) : step (sum ^^^ b) = (sum >>> 8) ^^^ step ((sum % 256) ^^^ b) := by
  conv => lhs; rw [low_high sum]
  rw [Nat.xor_assoc, step_xor]
  congr 1
  have := shifts_high (sum / 256) 8 8 (Nat.le_refl _)
  unfold step
  rw [show sum / 256 * 256 = sum / 256 * 2 ^ 8 from rfl, this, Nat.shiftRight_eq_div_pow]
  simp
theorem shift_inj {a b : Nat} (ha : a < 4294967296) (hb : b < 4294967296) (h : shift a = shift b) : a = b := by
  have t31 : ∀ n, n < 4294967296 → (shift n).testBit 31 = decide (n % 2 = 1) := by
    intro n hn
    rw [shift_eq, Nat.testBit_xor]
    have h1 : (n >>> 1).testBit 31 = false := Nat.testBit_lt_two_pow (by rw [Nat.shiftRight_eq_div_pow]; omega)
    rw [h1, Bool.false_xor]
    unfold bit
    rcases Nat.mod_two_eq_zero_or_one n with h2 | h2
    · rw [h2]; rfl
    · rw [h2]; rfl
  have e : a % 2 = b % 2 := by
    have e2 := t31 a ha
    rw [h, t31 b hb] at e2
    rcases Nat.mod_two_eq_zero_or_one a with h1 | h1 <;> rcases Nat.mod_two_eq_zero_or_one b with h2 | h2 <;> simp [h1, h2] at e2 ⊢
  have eb : bit a = bit b := by unfold bit; rw [e]
  rw [shift_eq, shift_eq, eb] at h
  have h3 : a >>> 1 = b >>> 1 := by
    have := congrArg (fun x => x ^^^ bit b) h
    simpa [Nat.xor_assoc] using this
  rw [Nat.shiftRight_eq_div_pow, Nat.shiftRight_eq_div_pow] at h3
  omega
theorem shifts_inj {a b : Nat} (ha : a < 4294967296) (hb : b < 4294967296) : ∀ k, shifts k a = shifts k b → a = b
  | 0, h => h
  | k + 1, h => shifts_inj ha hb k (shift_inj (shifts_lt ha k) (shifts_lt hb k) h)
theorem step_inj {a b : Nat} (ha : a < 4294967296) (hb : b < 4294967296) (h : step a = step b) : a = b := shifts_inj ha hb 8 h
def fold (sum : Nat) (l : List UInt8) : Nat := l.foldl (fun n b => step (n ^^^ b.toNat)) sum
theorem fold_snoc (sum : Nat) (l : List UInt8) (b : UInt8) : fold sum (l ++ [b]) = step (fold sum l ^^^ b.toNat) := by
  unfold fold
  rw [List.foldl_append]
  rfl
theorem fold_append (sum : Nat) (l m : List UInt8) : fold sum (l ++ m) = fold (fold sum l) m := List.foldl_append ..
theorem xor_byte_lt {n : Nat} (h : n < 4294967296) (b : UInt8) : n ^^^ b.toNat < 4294967296 := Nat.xor_lt_two_pow (n := 32) h (by have := b.toNat_lt; omega)
theorem fold_lt {sum : Nat} (h : sum < 4294967296) : ∀ l : List UInt8, fold sum l < 4294967296 := by
  intro l
  induction l generalizing sum with
  | nil => exact h
  | cons b l ih => exact ih (step_lt (xor_byte_lt h b))
theorem xor_cancel {a b c : Nat} (h : a ^^^ c = b ^^^ c) : a = b := by
  have := congrArg (fun x => x ^^^ c) h
  simpa [Nat.xor_assoc] using this
theorem fold_inj {a b : Nat} (ha : a < 4294967296) (hb : b < 4294967296) (l : List UInt8) (h : fold a l = fold b l) : a = b := by
  induction l generalizing a b with
  | nil => exact h
  | cons x l ih =>
    have := ih (step_lt (xor_byte_lt ha x)) (step_lt (xor_byte_lt hb x)) h
    exact xor_cancel (step_inj (xor_byte_lt ha x) (xor_byte_lt hb x) this)
/-- One byte that is another one is told. -/
theorem fold_tells {sum : Nat} (h : sum < 4294967296) (l m : List UInt8) {x y : UInt8} (hxy : x ≠ y) : fold sum (l ++ x :: m) ≠ fold sum (l ++ y :: m) := by
  intro e
  rw [fold_append, fold_append] at e
  have hl := fold_lt h l
  have := fold_inj (step_lt (xor_byte_lt hl x)) (step_lt (xor_byte_lt hl y)) m e
  have h2 := step_inj (xor_byte_lt hl x) (xor_byte_lt hl y) this
  rw [Nat.xor_comm _ x.toNat, Nat.xor_comm _ y.toNat] at h2
  exact hxy (UInt8.toNat_inj.1 (xor_cancel h2))
def sum (l : List UInt8) : Nat := 4294967295 - fold 4294967295 l
theorem sum_lt (l : List UInt8) : sum l < 4294967296 := by unfold sum; omega
/-- The document's way: a bit comes in as one falls out. -/
def inBit (n b k : Nat) : Nat := if n % 2 ≠ (b >>> k) % 2 then (n / 2) ^^^ turn else n / 2
def inBits (n b : Nat) : Nat → Nat
  | 0 => n
  | k + 1 => inBit (inBits n b k) b k
theorem inBits_eq (n b : Nat) : ∀ k, shifts k (n ^^^ b) = inBits n b k ^^^ (b >>> k)
  | 0 => by simp [shifts, inBits]
  | k + 1 => by
    show shift (shifts k _) = inBit (inBits n b k) b k ^^^ _
    rw [inBits_eq n b k]
    generalize inBits n b k = m
    rw [shift_eq, Nat.shiftRight_xor_distrib, ← Nat.shiftRight_add]
    have hb : bit (m ^^^ b >>> k) = if m % 2 ≠ (b >>> k) % 2 then turn else 0 := by
      rw [bit_xor]
      unfold bit
      rcases Nat.mod_two_eq_zero_or_one m with h1 | h1 <;> rcases Nat.mod_two_eq_zero_or_one (b >>> k) with h2 | h2 <;> simp [h1, h2]
    rw [hb]
    unfold inBit
    have e : m >>> 1 = m / 2 := by rw [Nat.shiftRight_eq_div_pow]
    split
    · rw [e]
      simp only [Nat.xor_assoc]
      rw [Nat.xor_comm turn]
    · rw [e]
      simp
theorem inBits_step (n : Nat) (b : UInt8) : inBits n b.toNat 8 = step (n ^^^ b.toNat) := by
  have := inBits_eq n b.toNat 8
  have h0 : b.toNat >>> 8 = 0 := by rw [Nat.shiftRight_eq_div_pow]; have := b.toNat_lt; omega
  rw [h0, Nat.xor_zero] at this
  exact this.symm
end Crc
end Go.Peri
namespace Go.Peri
namespace Crc
theorem and1 (n : Nat) (hn : n < 4294967296) : bits .and .u32 (n : Int) 1 = ((n % 2 : Nat) : Int) := by
  rw [show (1 : Int) = ((1 : Nat) : Int) from rfl, u32_and_nat _ _ hn (by omega), nat_mask1]
theorem xor_nat (a b : Nat) (ha : a < 4294967296) (hb : b < 4294967296) : bits .xor .u32 (a : Int) (b : Int) = ((a ^^^ b : Nat) : Int) := u32_xor_nat a b ha hb
theorem not_nat (m : Nat) (h : m < 4294967296) : bits .xor .u32 IntKind.u32.max (m : Int) = ((4294967295 - m : Nat) : Int) := by
  have h1 := xor_nat 4294967295 m (by omega) h
  have e : 4294967295 ^^^ m = 4294967295 - m := by
    apply Nat.eq_of_testBit_eq
    intro i
    have h2 := Nat.testBit_two_pow_sub_succ (x := m) (n := 32) h i
    rw [Nat.testBit_xor, show 4294967295 - m = 2 ^ 32 - (m + 1) by omega, h2, show 4294967295 = 2 ^ 32 - 1 from rfl, Nat.testBit_two_pow_sub_one]
    by_cases hi : i < 32
    · simp [hi]
    · have : m.testBit i = false := Nat.testBit_lt_two_pow (Nat.lt_of_lt_of_le h (Nat.pow_le_pow_right (n := 2) (by decide) (show 32 ≤ i by omega)))
      simp [hi, this]
  rw [e] at h1
  rw [show IntKind.u32.max = ((4294967295 : Nat) : Int) from rfl]
  exact h1
theorem shift1 {n : Nat} (h : n % 2 = 1) : shift n = (n / 2) ^^^ turn := by unfold shift; rw [if_pos h, Nat.shiftRight_eq_div_pow]
theorem shift0 {n : Nat} (h : ¬ n % 2 = 1) : shift n = n / 2 := by unfold shift; rw [if_neg h, Nat.shiftRight_eq_div_pow]
end Crc
end Go.Peri
namespace Go.Proofs.Ytcohcanakicmpaa
open Go.RowKit Go.Peri
namespace C03
theorem shift_any (n : Nat) (w : World) (hn : n < 4294967296) : Calls Try.prog 96 #[.int .u32 n] w fun e w' => e = .returned (.int .u32 (Crc.shift n)) ∧ w = w' := by
  have ha := Crc.and1 n hn
  by_cases h1 : n % 2 = 1
  · rw [h1] at ha
    have hx : bits .xor .u32 ((n : Int) / 2) 3988292384 = ((n / 2 ^^^ Crc.turn : Nat) : Int) := Crc.xor_nat (n / 2) Crc.turn (by omega) (by decide)
    have hs := hid (Crc.shift1 h1)
    clear h1
    go_enter Try.func96, Try.ntmps96
    go_wp2
    go_ret
    exact ⟨by rw [hs.out]; rfl, rfl⟩
  · have h2 : n % 2 = 0 := by omega
    rw [h2] at ha
    have hs := hid (Crc.shift0 h1)
    clear h1 h2
    go_enter Try.func96, Try.ntmps96
    go_wp2
    go_ret
    exact ⟨by rw [hs.out]; rfl, rfl⟩
theorem step_any (n : Nat) (w : World) (hn : n < 4294967296) : Calls Try.prog 95 #[.int .u32 n] w fun e w' => e = .returned (.int .u32 (Crc.step n)) ∧ w = w' := by
  go_enter Try.func95, Try.ntmps95
  go_wp2
  go_loop [0, 3] (fun x i => ∃ k : Nat, k ≤ 8 ∧ i = .int .i64 k ∧ x = .int .u32 (Crc.shifts k n)) (fun _ i => 8 - (intOf i).toNat)
  case atStart => exact ⟨0, Nat.zero_le _, rfl, rfl⟩
  case round =>
    obtain ⟨k, hk, rfl, rfl⟩ := hrel
    have hlt := Crc.shifts_lt hn k
    have HN : Hid (Crc.shifts (k + 1) n = Crc.shift (Crc.shifts k n)) := hid rfl
    by_cases hk8 : k < 8
    · generalize Crc.shifts k n = m at hlt HN
      go_wp2_with (go_at_call 96; refine (shift_any m _ hlt).mono ?_; rintro e w' ⟨rfl, rfl⟩)
      go_round
      case rel => exact ⟨k + 1, by omega, by go_num, by rw [HN.out]⟩
      case measure => simp [intOf]; omega
    · obtain rfl : k = 8 := by omega
      go_wp2
      go_ret
      exact ⟨rfl, rfl⟩
theorem take_snoc (s : ByteArray) (k : Nat) (h : k < s.size) : s.data.toList.take (k + 1) = s.data.toList.take k ++ [s[k]] := by
  rw [List.take_succ_eq_append_getElem (by simpa using h)]; rfl
set_option maxRecDepth 100000 in
theorem of_any (s : ByteArray) (w : World) (hs : s.size ≤ 1000000000) : Calls Try.prog 94 #[.string s] w fun e w' => e = .returned (.int .u32 (Crc.sum s.data.toList)) ∧ w = w' := by
  go_enter Try.func94, Try.ntmps94
  go_wp2
  go_loop [3, 7] (fun x i => ∃ k : Nat, k ≤ s.size ∧ i = .int .i64 k ∧ x = .int .u32 (Crc.fold 4294967295 (s.data.toList.take k))) (fun _ i => s.size - (intOf i).toNat)
  case atStart => exact ⟨0, Nat.zero_le _, rfl, rfl⟩
  case round =>
    obtain ⟨k, hk, rfl, rfl⟩ := hrel
    have hlt := Crc.fold_lt (sum := 4294967295) (by decide) (s.data.toList.take k)
    by_cases hks : k < s.size
    · have HN : Hid (Crc.fold 4294967295 (s.data.toList.take (k + 1)) = Crc.step (Crc.fold 4294967295 (s.data.toList.take k) ^^^ (s[k]).toNat)) := by show _ = _; rw [take_snoc s k hks, Crc.fold_snoc]
      have hb := (s[k]).toNat_lt
      have hxl := Crc.xor_byte_lt hlt s[k]
      generalize Crc.fold 4294967295 (s.data.toList.take k) = m at hlt HN hxl
      have hx := Crc.xor_nat m (s[k]).toNat hlt (by omega)
      go_wp2_with (go_at_call 95; refine (step_any (m ^^^ (s[k]).toNat) _ hxl).mono ?_; rintro e w' ⟨rfl, rfl⟩)
      go_round
      case rel => exact ⟨k + 1, by omega, by go_num, by rw [HN.out]⟩
      case measure => simp [intOf]; omega
    · obtain rfl : k = s.size := by omega
      have HT : Hid (s.data.toList.take s.size = s.data.toList) := by show _ = _; exact List.take_of_length_le (by simp)
      have HS : Hid (Crc.sum s.data.toList = 4294967295 - Crc.fold 4294967295 (s.data.toList.take s.size)) := by show _ = _; rw [HT.out]; rfl
      generalize Crc.fold 4294967295 (s.data.toList.take s.size) = m at hlt HS
      have hn := Crc.not_nat m hlt
      go_wp2
      go_ret
      exact ⟨by rw [HS.out]; rfl, rfl⟩
end C03
end Go.Proofs.Ytcohcanakicmpaa
namespace Go.Peri
open Go.RowKit
/-- A header. -/
structure Hd where
  name : ByteArray
  value : ByteArray
namespace Hd
def enc (h : Hd) : List Value := [.string h.name, .string h.value]
theorem enc_length (h : Hd) : h.enc.length = 2 := rfl
instance : DecidableEq Hd := fun a b =>
  if h : a.name = b.name ∧ a.value = b.value then .isTrue (by obtain ⟨⟩ := a; obtain ⟨⟩ := b; simp_all) else .isFalse (by rintro rfl; simp at h)
def ty : Ty := .cons .str (.cons .str .nil)
structure Wf (h : Hd) : Prop where
  name : h.name.size ≤ 140737488351232
  value : h.value.size ≤ 140737488351232
theorem rd_str {w : World} {B : Nat} {cs : List Value} (h : Rd w B .str cs) : ∃ s : ByteArray, cs = [.string s] ∧ s.size ≤ 140737488351232 := by
  obtain ⟨s, rfl, _, h2⟩ := h
  exact ⟨s, rfl, h2⟩
theorem of_rd {w : World} {B : Nat} {cs : List Value} (h : Rd w B ty cs) : ∃ x : Hd, cs = x.enc ∧ Wf x := by
  obtain ⟨_, _, rfl, _, a1, h⟩ := h
  obtain ⟨_, _, rfl, _, a2, h⟩ := h
  obtain ⟨n, rfl, g1⟩ := rd_str a1
  obtain ⟨v, rfl, g2⟩ := rd_str a2
  have e1 : (_ : List Value) = [] := h
  subst e1
  exact ⟨⟨n, v⟩, rfl, ⟨g1, g2⟩⟩
theorem cells {y : Hd} {w : World} {b o : Nat} (h : ∀ j u, y.enc[j]? = some u → w.cell? ⟨b, o + j, none⟩ = some u) :
    w.cell? ⟨b, o, none⟩ = some (.string y.name) ∧ w.cell? ⟨b, o + 1, none⟩ = some (.string y.value) := ⟨h 0 _ rfl, h 1 _ rfl⟩
theorem one (l : List Hd) : ∀ u ∈ l.flatMap Hd.enc, u.oneCell' = true := by
  intro u hu
  obtain ⟨o, _, ho⟩ := List.mem_flatMap.1 hu
  simp only [Hd.enc, List.mem_cons, List.not_mem_nil, or_false] at ho
  rcases ho with rfl | rfl <;> rfl

/-- What may be. -/
def nameB (b : UInt8) : Bool := b == 45 || (48 ≤ b && b ≤ 57) || (97 ≤ b && b ≤ 122)
def valueB (b : UInt8) : Bool := 32 ≤ b && b ≤ 126
def nameOk (s : ByteArray) : Bool := decide (1 ≤ s.size) && decide (s.size ≤ 32) && s.data.toList.all nameB
def valueOk (s : ByteArray) : Bool := decide (s.size ≤ 64) && s.data.toList.all valueB && (decide (s.size = 0) || (s.data.toList.head? != some 32 && s.data.toList.getLast? != some 32))
/-- The first one that may not be. -/
def checkL : List Hd → Int
  | [] => 0
  | h :: l => if nameOk h.name = false then 7 else if valueOk h.value = false then 15 else checkL l
def checkR (l : List Hd) : Int := if 16 < l.length then 8 else checkL l
/-- The place of the first one of a name. -/
def ix (l : List Hd) (n : ByteArray) : Nat := l.findIdx (fun h => decide (h.name = n))
def allR (l : List Hd) (n : ByteArray) : List ByteArray := (l.filter (fun h => decide (h.name = n))).map Hd.value
def getR (l : List Hd) (n : ByteArray) : ByteArray × Bool := match allR l n with | [] => (ByteArray.empty, false) | v :: _ => (v, true)
def setR (l : List Hd) (n v : ByteArray) : List Hd :=
  if ix l n < l.length then l.take (ix l n) ++ ⟨n, v⟩ :: (l.drop (ix l n)).filter (fun h => !decide (h.name = n)) else l ++ [⟨n, v⟩]
def outR (l : List Hd) (ns : List ByteArray) : List Hd := l.filter (fun h => !ns.any (fun x => decide (x = h.name)))
end Hd
theorem heads_of_arg {w : World} {B : Nat} {v : Value} (h : Arg w B (.slice 32 Hd.ty) v) : ∃ l : List Hd, RowsOf (· < B) Hd.enc 2 w v l ∧ l.length * 32 ≤ 140737488351232 ∧ (∀ x ∈ l, x.Wf) := by
  obtain ⟨l, h1, h2, h3⟩ := rows_of_arg (enc := Hd.enc) (wf := Hd.Wf) (e := Hd.ty) (fun _ => rfl) (fun cs hc => Hd.of_rd hc) h
  exact ⟨l, h1, h2, h3⟩
theorem str_of_arg {w : World} {B : Nat} {v : Value} (h : Arg w B .str v) : ∃ s : ByteArray, v = .string s ∧ s.size ≤ 140737488351232 := by
  obtain ⟨s, e, _, h2⟩ := h
  cases e
  exact ⟨s, rfl, h2⟩
end Go.Peri
namespace Go.Peri
namespace Hd
theorem ix_le (l : List Hd) (n : ByteArray) : ix l n ≤ l.length := List.findIdx_le_length
theorem ix_snoc (p : List Hd) (h : Hd) (n : ByteArray) : ix (p ++ [h]) n = if ix p n < p.length then ix p n else if h.name = n then p.length else p.length + 1 := by
  unfold ix
  rw [List.findIdx_append]
  split
  · rfl
  · by_cases e : h.name = n <;> simp [List.findIdx_cons, e, Nat.add_comm]
/-- What stands of headers behind Set, of some first ones. -/
def setK (l : List Hd) (n v : ByteArray) : List Hd :=
  if ix l n < l.length then l.take (ix l n) ++ ⟨n, v⟩ :: (l.drop (ix l n)).filter (fun h => !decide (h.name = n)) else l
theorem setK_keep (p : List Hd) (h : Hd) (n v : ByteArray) (hn : h.name ≠ n) : setK (p ++ [h]) n v = setK p n v ++ [h] := by
  unfold setK
  by_cases hx : ix p n < p.length
  · have e : ix (p ++ [h]) n = ix p n := by rw [ix_snoc, if_pos hx]
    rw [e, if_pos hx, if_pos (by simp; omega), List.take_append_of_le_length (by omega), List.drop_append_of_le_length (by omega), List.filter_append]
    simp [hn]
  · have e : ix (p ++ [h]) n = p.length + 1 := by rw [ix_snoc, if_neg hx, if_neg hn]
    rw [e, if_neg hx, if_neg (by simp)]
theorem setK_skip (p : List Hd) (h : Hd) (n v : ByteArray) (hn : h.name = n) (hx : ix p n < p.length) : setK (p ++ [h]) n v = setK p n v := by
  unfold setK
  have e : ix (p ++ [h]) n = ix p n := by rw [ix_snoc, if_pos hx]
  rw [e, if_pos hx, if_pos (by simp; omega), List.take_append_of_le_length (by omega), List.drop_append_of_le_length (by omega), List.filter_append]
  simp [hn]
theorem setK_met (p : List Hd) (h : Hd) (n v : ByteArray) (hn : h.name = n) (hx : ¬ ix p n < p.length) : setK (p ++ [h]) n v = setK p n v ++ [⟨n, v⟩] := by
  unfold setK
  have e : ix (p ++ [h]) n = p.length := by rw [ix_snoc, if_neg hx, if_pos hn]
  rw [e, if_neg hx, if_pos (by simp)]
  simp [hn]
theorem setR_eq (l : List Hd) (n v : ByteArray) : setR l n v = if ix l n < l.length then setK l n v else setK l n v ++ [⟨n, v⟩] := by
  unfold setR setK
  split <;> rfl
theorem met_snoc (p : List Hd) (h : Hd) (n : ByteArray) : decide (ix (p ++ [h]) n < (p ++ [h]).length) = (decide (ix p n < p.length) || decide (h.name = n)) := by
  rw [ix_snoc]
  by_cases hx : ix p n < p.length
  · rw [if_pos hx]
    have : ix p n < p.length + 1 := by omega
    simp [hx, this]
  · rw [if_neg hx]
    by_cases e : h.name = n <;> simp [e, hx]
theorem before (l : List Hd) (n : ByteArray) : ∀ h ∈ l.take (ix l n), h.name ≠ n := by
  intro h hh
  obtain ⟨i, hi, rfl⟩ := List.getElem_of_mem hh
  rw [List.length_take] at hi
  rw [List.getElem_take]
  have := List.not_of_lt_findIdx (p := fun h : Hd => decide (h.name = n)) (xs := l) (i := i) (by unfold ix at hi; omega)
  simpa using this
theorem at_ix (l : List Hd) (n : ByteArray) (h : ix l n < l.length) : l[ix l n].name = n := by
  have := List.findIdx_getElem (w := h)
  exact of_decide_eq_true this
theorem allR_set (l : List Hd) (n v : ByteArray) : allR (setR l n v) n = [v] := by
  unfold allR setR
  split
  · rename_i hx
    rw [List.filter_append, List.filter_cons]
    have e1 : (l.take (ix l n)).filter (fun h => decide (h.name = n)) = [] := List.filter_eq_nil_iff.2 (fun h hh => by simpa using before l n h hh)
    have e2 : ((l.drop (ix l n)).filter (fun h => !decide (h.name = n))).filter (fun h => decide (h.name = n)) = [] := by
      rw [List.filter_filter]
      exact List.filter_eq_nil_iff.2 (fun h _ => by simp)
    rw [e1, e2]
    simp
  · rename_i hx
    have e1 : l.filter (fun h => decide (h.name = n)) = [] := by
      refine List.filter_eq_nil_iff.2 (fun h hh => ?_)
      have hl : ix l n = l.length := by have := ix_le l n; omega
      have := before l n h (by rw [hl, List.take_length]; exact hh)
      simpa using this
    rw [List.filter_append, e1]
    simp
theorem outR_one (l : List Hd) (n : ByteArray) : outR l [n] = l.filter (fun h => !decide (h.name = n)) := by
  unfold outR
  refine List.filter_congr fun h _ => ?_
  by_cases e : h.name = n
  · simp [e]
  · have e2 : ¬ n = h.name := fun h2 => e h2.symm
    simp [e, e2]
theorem out_set (l : List Hd) (n v : ByteArray) : outR (setR l n v) [n] = outR l [n] := by
  rw [outR_one, outR_one]
  unfold setR
  split
  · rename_i hx
    rw [List.filter_append, List.filter_cons]
    simp only [decide_true, Bool.not_true, Bool.false_eq_true, if_false]
    rw [List.filter_filter]
    conv => rhs; rw [← List.take_append_drop (ix l n) l, List.filter_append]
    simp
  · rw [List.filter_append]
    simp
theorem out_len (l : List Hd) (n v : ByteArray) : (outR (setR l n v) [n]).length + 1 = (setR l n v).length := by
  have h1 : (outR (setR l n v) [n]).length + (allR (setR l n v) n).length = (setR l n v).length := by
    rw [outR_one]
    unfold allR
    rw [List.length_map]
    generalize setR l n v = x
    induction x with
    | nil => rfl
    | cons h t ih => by_cases e : h.name = n <;> simp [e] at ih ⊢ <;> omega
  rw [allR_set] at h1
  exact h1
theorem get_out (l : List Hd) (n : ByteArray) : getR (outR l [n]) n = (ByteArray.empty, false) := by
  have : allR (outR l [n]) n = [] := by
    unfold allR
    rw [outR_one, List.filter_filter, List.map_eq_nil_iff]
    exact List.filter_eq_nil_iff.2 (fun h _ => by simp)
  unfold getR
  rw [this]
/-- The first ones may all be. -/
theorem checkL_skip (l : List Hd) : ∀ k, k ≤ l.length → (∀ j (_ : j < k) (hj : j < l.length), nameOk l[j].name = true ∧ valueOk l[j].value = true) → checkL l = checkL (l.drop k)
  | 0, _, _ => rfl
  | k + 1, hk, h => by
    rw [checkL_skip l k (by omega) (fun j hj hjl => h j (by omega) hjl)]
    have := h k (by omega) (by omega)
    rw [List.drop_eq_getElem_cons (by omega)]
    simp [checkL, this.1, this.2]
theorem checkL_name (l : List Hd) (k : Nat) (hk : k < l.length) (h : ∀ j (_ : j < k) (hj : j < l.length), nameOk l[j].name = true ∧ valueOk l[j].value = true) (h1 : nameOk l[k].name = false) : checkL l = 7 := by
  rw [checkL_skip l k (by omega) h, List.drop_eq_getElem_cons hk]
  simp [checkL, h1]
theorem checkL_value (l : List Hd) (k : Nat) (hk : k < l.length) (h : ∀ j (_ : j < k) (hj : j < l.length), nameOk l[j].name = true ∧ valueOk l[j].value = true) (h1 : nameOk l[k].name = true) (h2 : valueOk l[k].value = false) : checkL l = 15 := by
  rw [checkL_skip l k (by omega) h, List.drop_eq_getElem_cons hk]
  simp [checkL, h1, h2]
theorem checkL_ok (l : List Hd) (h : ∀ j (_ : j < l.length) (hj : j < l.length), nameOk l[j].name = true ∧ valueOk l[j].value = true) : checkL l = 0 := by
  rw [checkL_skip l l.length (Nat.le_refl _) h, List.drop_length]
  rfl
theorem all_snoc {p : UInt8 → Bool} {l : List UInt8} {k : Nat} (hk : k < l.length) (h : (l.take k).all p = true) (h1 : p l[k] = true) : (l.take (k + 1)).all p = true := by
  rw [List.take_succ_eq_append_getElem hk, List.all_append, h]
  simp [h1]
theorem all_hit {p : UInt8 → Bool} {l : List UInt8} {k : Nat} (hk : k < l.length) (h1 : p l[k] = false) : l.all p = false := by
  rw [List.all_eq_false]
  exact ⟨l[k], List.getElem_mem hk, by simpa using h1⟩
end Hd
end Go.Peri
namespace Go.Peri
open Go.RowKit
def strs (ls : List ByteArray) : List Value := ls.map Value.string
theorem strs_one (ls : List ByteArray) : ∀ u ∈ strs ls, u.oneCell' = true := by
  intro u hu
  obtain ⟨s, _, rfl⟩ := List.mem_map.1 hu
  rfl
theorem bytes_ne {x y : ByteArray} (h : x ≠ y) : (x.toList == y.toList) = false := by
  refine beq_eq_false_iff_ne.2 fun e => h ?_
  rw [ByteArray.toList_eq, ByteArray.toList_eq] at e
  exact ByteArray.ext (Array.toList_inj.1 e)
theorem bytes_beq (x y : ByteArray) : (x.toList == y.toList) = decide (x = y) := by
  by_cases h : x = y
  · subst h; simp
  · rw [bytes_ne h, decide_eq_false h]
theorem bytes_bne (x y : ByteArray) : (x.toList != y.toList) = !decide (x = y) := by rw [bne, bytes_beq]
/-- A string is equal to another one, or not: as the walk asks it. -/
structure StrEq (x y : ByteArray) (b : Bool) : Prop where
  eq : (x.toList == y.toList) = b
  ne : (x.toList != y.toList) = !b
theorem strEq (x y : ByteArray) : StrEq x y (decide (x = y)) := ⟨bytes_beq x y, bytes_bne x y⟩
theorem strEq_of {x y : ByteArray} {b : Bool} (h : decide (x = y) = b) : StrEq x y b := h ▸ strEq x y
theorem below_drew {B : Nat} {a w : World} (h : Below B a.drew w) : Below B a w := ⟨h.os, h.tape, h.output, h.size, h.block⟩
/-- A new row of elements. -/
def NewRows {α : Type} (enc : α → List Value) (k : Nat) (T : TypeId) (W : World) (l : List α) (e : Ending) (w' : World) : Prop :=
  ∃ a cap, e = .returned (.slice a l.length cap) ∧ Below W.heap.size W w' ∧ Hid (w'.ownsRow W.heap.size T k (.slice a l.length cap) l.length (l.flatMap enc))
/-- .. known as a reading only. -/
def NewRead {α : Type} (enc : α → List Value) (k : Nat) (W : World) (l : List α) (e : Ending) (w' : World) : Prop :=
  ∃ a cap, e = .returned (.slice a l.length cap) ∧ Below W.heap.size W w' ∧ Hid (RowsOf (fun b => W.heap.size ≤ b ∧ b < w'.heap.size) enc k w' (.slice a l.length cap) l)
theorem NewRows.read {α : Type} {enc : α → List Value} {k : Nat} (hk : ∀ x, (enc x).length = k) {T : TypeId} {W : World} {l : List α} {e : Ending} {w' : World} (h : NewRows enc k T W l e w') : NewRead enc k W l e w' := by
  obtain ⟨a, cap, h1, h2, h3⟩ := h
  exact ⟨a, cap, h1, h2, RowsOf.of_owns hk h3.out⟩
def sEnc (s : ByteArray) : List Value := [.string s]
theorem sEnc_length (s : ByteArray) : (sEnc s).length = 1 := rfl
theorem sEnc_flat (l : List ByteArray) : l.flatMap sEnc = strs l := by
  induction l with
  | nil => rfl
  | cons x l ih => rw [List.flatMap_cons, ih]; rfl
theorem sEnc_one (l : List ByteArray) : ∀ u ∈ l.flatMap sEnc, u.oneCell' = true := by rw [sEnc_flat]; exact strs_one l
theorem rows_of_vals {p : Nat → Prop} {w : World} {v : Value} {l : List ByteArray} (h : Vals p w v (l.map Value.string)) : RowsOf p sEnc 1 w v l := by
  have := h.cellz
  rw [List.length_map] at this
  refine Cellz.rows sEnc_length ?_
  rw [sEnc_flat]
  exact this
/-- 'out = append(out, x)', the new block's number in the walk's spelling. -/
theorem wpList_pushH {P : Program} {t e : TypeId} {size bytes : Nat} (E : Elem P t e size bytes) {ops : Array Oper} {rest : List Oper} {o : Oper} {a : Act} {Q : Exit → Act → World → Prop} {w w0 : World} (hgd : o.guard = none) (s x : Operand)
    (ho : o.op = .call { callee := .builtin .append, args := #[s, x], argTypes := #[t, t] }) (base : Nat) (v : Value) (n : Nat) (xs news : List Value) (hs : a.eval s = v) (hown : w0.ownsRow base e size v n xs) {T : TypeId}
    (hw : w = w0.alloc (.cells news.toArray T)) (H : Nat) (hH : w0.heap.size = H) (hx : a.eval x = .slice (some ⟨H, 0, none⟩) 1 1) (hl : news.length = size) (h1 : ∀ u ∈ news, u.oneCell' = true)
    (h63 : n + 1 ≤ maxLen) (hbytes : (n + 1) * bytes ≤ 140737488355328) (hbase : base ≤ H)
    (h : ∀ v' w', w'.ownsRow base e size v' (n + 1) (xs ++ news) → Below base w0 w' → wpList P ops Q rest (a.put o.dst v') w') : wpList P ops Q (o :: rest) a w := by
  subst hH
  exact wpList_push E hgd s x ho base v n xs news hs hown hw hx hl h1 h63 hbytes hbase h
/-- A slice value as it is. -/
theorem RowsOf.form {α : Type} {p : Nat → Prop} {enc : α → List Value} {k : Nat} {w : World} {v : Value} {l : List α} (h : RowsOf p enc k w v l) : ∃ a cap, v = .slice a l.length cap := by
  obtain ⟨a, cap, e, _⟩ := h
  exact ⟨a, cap, e⟩
theorem owns_form {w : World} {base : Nat} {e : TypeId} {size : Nat} {v : Value} {n : Nat} {xs : List Value} (h : w.ownsRow base e size v n xs) : ∃ a cap, v = .slice a n cap := by
  rcases h.2 with ⟨h5, h0⟩ | ⟨gg, cap, cur, rfl, _⟩
  · rw [h5, h0]; exact ⟨none, 0, rfl⟩
  · exact ⟨_, cap, rfl⟩
namespace Hd
theorem allR_snoc (p : List Hd) (h : Hd) (n : ByteArray) : allR (p ++ [h]) n = if h.name = n then allR p n ++ [h.value] else allR p n := by
  unfold allR
  rw [List.filter_append]
  by_cases e : h.name = n <;> simp [e]
theorem allR_len (l : List Hd) (n : ByteArray) : (allR l n).length ≤ l.length := by
  unfold allR
  rw [List.length_map]
  exact List.length_filter_le _ _
theorem outR_snoc (p : List Hd) (h : Hd) (ns : List ByteArray) : outR (p ++ [h]) ns = if ns.any (fun x => decide (x = h.name)) then outR p ns else outR p ns ++ [h] := by
  unfold outR
  rw [List.filter_append]
  by_cases e : ns.any (fun x => decide (x = h.name)) = true <;> simp [e]
theorem outR_len (l : List Hd) (ns : List ByteArray) : (outR l ns).length ≤ l.length := List.length_filter_le _ _
theorem allR_ix (l : List Hd) (n : ByteArray) : (ix l n < l.length → ∃ t, allR l n = (l.getD (ix l n) ⟨.empty, .empty⟩).value :: t) ∧ (¬ ix l n < l.length → allR l n = []) := by
  induction l with
  | nil => exact ⟨fun h => by simp at h, fun _ => rfl⟩
  | cons h t ih =>
    by_cases e : h.name = n
    · have : ix (h :: t) n = 0 := by unfold ix; simp [List.findIdx_cons, e]
      rw [this]
      exact ⟨fun _ => ⟨allR t n, by simp [allR, e]⟩, fun h2 => absurd (by simp) h2⟩
    · have e1 : ix (h :: t) n = ix t n + 1 := by unfold ix; simp [List.findIdx_cons, e]
      have e2 : allR (h :: t) n = allR t n := by simp [allR, e]
      rw [e1, e2]
      refine ⟨fun h2 => ?_, fun h2 => ih.2 (by simpa using h2)⟩
      obtain ⟨q, hq⟩ := ih.1 (by simpa using h2)
      exact ⟨q, by rw [hq]; simp [List.getD]⟩
theorem getR_in (l : List Hd) (n : ByteArray) (h : ix l n < l.length) : getR l n = (l[ix l n].value, true) := by
  obtain ⟨t, ht⟩ := (allR_ix l n).1 h
  unfold getR
  rw [ht]
  simp [List.getD, h]
theorem getR_out (l : List Hd) (n : ByteArray) (h : ¬ ix l n < l.length) : getR l n = (ByteArray.empty, false) := by
  unfold getR
  rw [(allR_ix l n).2 h]
theorem ix_hit {l : List Hd} {n : ByteArray} {k : Nat} (hk : k < l.length) (h1 : l[k].name = n) (h2 : ∀ j (_ : j < k) (hj : j < l.length), l[j].name ≠ n) : ix l n = k := by
  unfold ix
  rw [List.findIdx_eq hk]
  exact ⟨by simpa using h1, fun j hj => by simpa using h2 j hj (by omega)⟩
theorem ix_none {l : List Hd} {n : ByteArray} (h2 : ∀ j (_ : j < l.length) (hj : j < l.length), l[j].name ≠ n) : ¬ ix l n < l.length := by
  intro h
  exact h2 _ h h (at_ix l n h)
/-- What where gives. -/
def atR (l : List Hd) (n : ByteArray) : Int := if ix l n < l.length then ix l n else -1
theorem atR_in {l : List Hd} {n : ByteArray} (h : ix l n < l.length) : atR l n = ix l n := if_pos h
theorem atR_out {l : List Hd} {n : ByteArray} (h : ¬ ix l n < l.length) : atR l n = -1 := if_neg h
end Hd
end Go.Peri
namespace Go.Proofs.Ytcohcanakicmpaa
open Go.RowKit Go.Peri
namespace C03
open C01
/-- The bytes of a sum. -/
def tailR (s : ByteArray) : ByteArray := ofNats (Oct.dg 256 (Crc.sum s.data.toList) 4)
theorem tailR_size (s : ByteArray) : (tailR s).size = 4 := by unfold tailR; rw [ofNats_size, Oct.dg_length]
theorem put_tail (s : ByteArray) : putR (Crc.sum s.data.toList) 4 = (tailR s, 0) := by
  have := Crc.sum_lt s.data.toList
  unfold putR
  rw [if_pos (by decide), if_pos (by simpa using this)]
  rfl
theorem tail_any (s : ByteArray) (w : World) (hs : s.size ≤ 1000000000) : Calls Try.prog 86 #[.string s] w fun e w' => e = .returned (.string (tailR s)) ∧ Below w.heap.size w w' := by
  have hof := of_any s w hs
  have hput := put_any (Crc.sum s.data.toList) 4 w (by have := Crc.sum_lt s.data.toList; omega)
  have hlt := Crc.sum_lt s.data.toList
  rw [put_tail] at hput
  dsimp only at hput
  generalize Crc.sum s.data.toList = m at hof hput hlt
  have ts := tailR_size s
  generalize tailR s = t at hput ts
  go_enter Try.func86, Try.ntmps86
  go_wp2_with fail
  refine hof.mono ?_
  rintro e w' ⟨rfl, rfl⟩
  go_wp2_with fail
  refine hput.mono ?_
  rintro e w' ⟨rfl, hb⟩
  have HB := hid hb
  clear hb
  go_wp2_with fail
  go_ret
  exact ⟨rfl, HB.out⟩
theorem seal_any (s : ByteArray) (w : World) (hs : s.size ≤ 1000000000) : Calls Try.prog 54 #[.string s] w fun e w' => e = .returned (.string (s ++ tailR s)) ∧ Below w.heap.size w w' := by
  have ht := tail_any s w hs
  have ts := tailR_size s
  generalize tailR s = t at ht ts
  go_enter Try.func54, Try.ntmps54
  go_wp2_with fail
  refine ht.mono ?_
  rintro e w' ⟨rfl, hb⟩
  have HB := hid hb
  clear hb
  go_wp2_with fail
  go_ret
  exact ⟨rfl, HB.out⟩
/-- A text without its sum. -/
def openR (s : ByteArray) : ByteArray × Int :=
  if s.size < 4 then (ByteArray.empty, 5) else if tailR (s.extract 0 (s.size - 4)) = s.extract (s.size - 4) s.size then (s.extract 0 (s.size - 4), 0) else (ByteArray.empty, 4)
end C03
end Go.Proofs.Ytcohcanakicmpaa
namespace Go.Proofs.Ytcohcanakicmpaa
open Go.RowKit Go.Peri
namespace C03
open C01
theorem inBits_lt {n b : Nat} (h : n < 4294967296) : ∀ k, Crc.inBits n b k < 4294967296
  | 0 => h
  | k + 1 => by
    have := inBits_lt (b := b) h k
    show Crc.inBit _ _ _ < _
    unfold Crc.inBit
    split
    · exact Nat.xor_lt_two_pow (n := 32) (by omega) (by decide)
    · omega
theorem castPow (x b : Nat) : ((x / 2 ^ b : Nat) : Int) = (x : Int) / 2 ^ b := by simp
set_option maxRecDepth 100000 in
theorem rof_any (s : ByteArray) (w : World) (hs : s.size ≤ 1000000000) : Calls Try.prog 71 #[.string s] w fun e w' => e = .returned (.int .u32 (Crc.sum s.data.toList)) ∧ w = w' := by
  go_enter Try.func71, Try.ntmps71
  go_wp2
  go_loop [3, 4] (fun x i => ∃ k : Nat, k ≤ s.size ∧ i = .int .i64 k ∧ x = .int .u32 (Crc.fold 4294967295 (s.data.toList.take k))) (fun _ i => s.size - (intOf i).toNat)
  case atStart => exact ⟨0, Nat.zero_le _, rfl, rfl⟩
  case round =>
    obtain ⟨k, hk, rfl, rfl⟩ := hrel
    have hlt := Crc.fold_lt (sum := 4294967295) (by decide) (s.data.toList.take k)
    by_cases hks : k < s.size
    · have HN : Hid (Crc.fold 4294967295 (s.data.toList.take (k + 1)) = Crc.inBits (Crc.fold 4294967295 (s.data.toList.take k)) (s[k]).toNat 8) := by show _ = _; rw [take_snoc s k hks, Crc.fold_snoc, Crc.inBits_step]
      have hb := (s[k]).toNat_lt
      have hd1 : decide ((k : Int) < (s.size : Int)) = true := by simpa using hks
      generalize Crc.fold 4294967295 (s.data.toList.take k) = m at hlt HN
      go_wp2
      go_loop [3, 5] (fun x j => ∃ b : Nat, b ≤ 8 ∧ j = .int .i64 b ∧ x = .int .u32 (Crc.inBits m (s[k]).toNat b)) (fun _ j => 8 - (intOf j).toNat)
      case atStart => exact ⟨0, Nat.zero_le _, rfl, rfl⟩
      case round =>
        obtain ⟨b, hb8, rfl, rfl⟩ := hrel
        have hq := inBits_lt (b := (s[k]).toNat) hlt b
        have HQ : Hid (Crc.inBits m (s[k]).toNat (b + 1) = Crc.inBit (Crc.inBits m (s[k]).toNat b) (s[k]).toNat b) := hid rfl
        by_cases hb9 : b < 8
        · generalize Crc.inBits m (s[k]).toNat b = q at hq HQ
          have hsh : (s[k]).toNat >>> b = (s[k]).toNat / 2 ^ b := Nat.shiftRight_eq_div_pow _ _
          by_cases ho : q % 2 = (s[k]).toNat / 2 ^ b % 2
          · have HI : Hid (Crc.inBit q (s[k]).toNat b = q / 2) := by show _ = _; unfold Crc.inBit; rw [hsh, if_neg (by simpa using ho)]
            have t1 : ((q : Int) % 2 == ((s[k].toNat : Int) / 2 ^ b) % 2) = true := by rw [beq_iff_eq, ← castPow]; omega
            clear ho hsh
            go_wp2
            go_round
            case rel => exact ⟨b + 1, by omega, by go_num, by rw [HQ.out, HI.out]; rfl⟩
            case measure => simp [intOf]; omega
          · have hq2 : q / 2 < 4294967296 := by omega
            have HI : Hid (Crc.inBit q (s[k]).toNat b = q / 2 ^^^ Crc.turn) := by show _ = _; unfold Crc.inBit; rw [hsh, if_pos (by simpa using ho)]
            have t1 : ((q : Int) % 2 == ((s[k].toNat : Int) / 2 ^ b) % 2) = false := by rw [beq_eq_false_iff_ne, ← castPow]; omega
            have hx : bits .xor .u32 ((q : Int) / 2) 3988292384 = ((q / 2 ^^^ Crc.turn : Nat) : Int) := Crc.xor_nat (q / 2) Crc.turn hq2 (by decide)
            clear ho hsh
            go_wp2
            go_round
            case rel => exact ⟨b + 1, by omega, by go_num, by rw [HQ.out, HI.out]⟩
            case measure => simp [intOf]; omega
        · obtain rfl : b = 8 := by omega
          rw [← HN.out]
          go_wp2
          go_round
          case rel => exact ⟨k + 1, by omega, by go_num, rfl⟩
          case measure => simp [intOf]; omega
    · obtain rfl : k = s.size := by omega
      have HT : Hid (s.data.toList.take s.size = s.data.toList) := by show _ = _; exact List.take_of_length_le (by simp)
      have HS : Hid (Crc.sum s.data.toList = 4294967295 - Crc.fold 4294967295 (s.data.toList.take s.size)) := by show _ = _; rw [HT.out]; rfl
      generalize Crc.fold 4294967295 (s.data.toList.take s.size) = m at hlt HS
      go_wp2
      go_ret
      exact ⟨by rw [HS.out]; go_num, rfl⟩
end C03
end Go.Proofs.Ytcohcanakicmpaa
namespace Go.Proofs.Ytcohcanakicmpaa
open Go.RowKit Go.Peri
namespace C03
open C01
theorem ba_ext {a b : ByteArray} (h : a.data.toList = b.data.toList) : a = b := ByteArray.ext (Array.toList_inj.1 h)
theorem ba_list (a b : ByteArray) : (a ++ b).data.toList = a.data.toList ++ b.data.toList := by simp
theorem ba_len (a : ByteArray) : a.data.toList.length = a.size := Array.length_toList
theorem ext_list (s : ByteArray) (a c : Nat) : (s.extract a c).data.toList = (s.data.toList.drop a).take (c - a) := by
  rw [ByteArray.data_extract, Array.toList_extract, List.extract_eq_take_drop]
theorem ba_append_inj {a b c d : ByteArray} (h : a ++ b = c ++ d) (hs : a.size = c.size) : a = c ∧ b = d := by
  have h1 : a.data.toList ++ b.data.toList = c.data.toList ++ d.data.toList := by rw [← ba_list, ← ba_list, h]
  have h2 := List.append_inj h1 (by rw [ba_len, ba_len, hs])
  exact ⟨ba_ext h2.1, ba_ext h2.2⟩
theorem split4 (s : ByteArray) (n : Nat) (hn : s.size = n + 4) : s.extract 0 n ++ s.extract n (n + 4) = s := by
  apply ba_ext
  rw [ba_list, ext_list, ext_list, List.drop_zero, Nat.sub_zero]
  have h2 : (s.data.toList.drop n).take (n + 4 - n) = s.data.toList.drop n := List.take_of_length_le (by rw [List.length_drop, ba_len]; omega)
  rw [h2, List.take_append_drop]
theorem tail_iff (s t : ByteArray) (n : Nat) (hn : s.size = n + 4) : s.extract 0 n ++ t = s ↔ t = s.extract n (n + 4) := by
  constructor
  · intro h
    have h2 := h.trans (split4 s n hn).symm
    exact (ba_append_inj h2 rfl).2
  · rintro rfl
    exact split4 s n hn
theorem rseal_any (s : ByteArray) (w : World) (hs : s.size ≤ 1000000000) : Calls Try.prog 43 #[.string s] w fun e w' => e = .returned (.string (s ++ tailR s)) ∧ Below w.heap.size w w' := by
  have hof := rof_any s w hs
  have hput := rput_any (Crc.sum s.data.toList) 4 w (by have := Crc.sum_lt s.data.toList; omega)
  have hlt := Crc.sum_lt s.data.toList
  rw [put_tail] at hput
  dsimp only at hput
  generalize Crc.sum s.data.toList = m at hof hput hlt
  have ts := tailR_size s
  generalize tailR s = t at hput ts
  go_enter Try.func43, Try.ntmps43
  go_wp2_with fail
  refine hof.mono ?_
  rintro e w' ⟨rfl, rfl⟩
  go_wp2_with fail
  refine hput.mono ?_
  rintro e w' ⟨rfl, hb⟩
  have HB := hid hb
  clear hb
  go_wp2_with fail
  go_ret
  exact ⟨rfl, HB.out⟩
set_option maxRecDepth 100000 in
theorem ropen_any (s : ByteArray) (w : World) (hs : s.size ≤ 1000000000) : Calls Try.prog 55 #[.string s] w fun e w' => e = .returned (.tuple #[.string (openR s).1, .int .i64 (openR s).2]) ∧ Below w.heap.size w w' := by
  by_cases h4 : s.size < 4
  · have hr : Hid (openR s = (ByteArray.empty, 5)) := by show _ = _; unfold openR; rw [if_pos h4]
    go_enter Try.func55, Try.ntmps55
    go_wp2_with fail
    go_ret2
    exact ⟨by rw [hr.out]; rfl, Below.refl _ _⟩
  obtain ⟨n, hn⟩ : ∃ n, s.size = n + 4 := ⟨s.size - 4, by omega⟩
  have e4 : s.size - 4 = n := by omega
  have hz : (s.extract 0 n).size = n := by rw [ByteArray.size_extract]; omega
  have HT := hid (fun w => rseal_any (s.extract 0 n) w (by omega))
  have hi := tail_iff s (tailR (s.extract 0 n)) n hn
  rw [← hn] at hi
  by_cases he : tailR (s.extract 0 n) = s.extract n s.size
  · have hr : Hid (openR s = (s.extract 0 n, 0)) := by show _ = _; unfold openR; rw [if_neg h4, e4, if_pos he]
    have hd : ((s.extract 0 n ++ tailR (s.extract 0 n)).toList == s.toList) = true := by rw [bytes_beq]; simpa using hi.2 he
    clear h4 he e4 hi
    generalize s.extract 0 n ++ tailR (s.extract 0 n) = t at HT hd
    go_enter Try.func55, Try.ntmps55
    go_wp2_with fail
    refine (HT.out _).mono ?_
    rintro e w3 ⟨rfl, hb3⟩
    have HB3 := hid hb3
    clear hb3
    go_wp2_with fail
    go_ret2
    exact ⟨by rw [hr.out]; rfl, HB3.out⟩
  · have hr : Hid (openR s = (ByteArray.empty, 4)) := by show _ = _; unfold openR; rw [if_neg h4, e4, if_neg he]
    have hd : ((s.extract 0 n ++ tailR (s.extract 0 n)).toList == s.toList) = false := by rw [bytes_beq]; simpa using fun h => he (hi.1 h)
    clear h4 he e4 hi
    generalize s.extract 0 n ++ tailR (s.extract 0 n) = t at HT hd
    go_enter Try.func55, Try.ntmps55
    go_wp2_with fail
    refine (HT.out _).mono ?_
    rintro e w3 ⟨rfl, hb3⟩
    have HB3 := hid hb3
    clear hb3
    go_wp2_with fail
    go_ret2
    exact ⟨by rw [hr.out]; rfl, HB3.out⟩
end C03
end Go.Proofs.Ytcohcanakicmpaa
namespace Go.Proofs.Ytcohcanakicmpaa
open Go.RowKit Go.Peri
namespace C01
set_option maxRecDepth 100000 in
theorem rget_any (s : ByteArray) (at_ w : Int) (W : World) (hs : s.size ≤ 1000000000000000) (ha : -9223372036854775808 ≤ at_ ∧ at_ ≤ 9223372036854775807) :
    Calls Try.prog 88 #[.string s, .int .i64 at_, .int .i64 w] W fun e w' => e = .returned (.tuple #[.int .u64 (getR s at_ w).1, .int .i64 (getR s at_ w).2]) ∧ W = w' := by
  by_cases h1 : w < 1
  · have hr : Hid (getR s at_ w = (0, 2)) := by show _ = _; unfold getR; rw [if_neg (by omega)]
    go_enter Try.func88, Try.ntmps88
    go_wp2_with fail
    go_ret2
    exact ⟨by rw [hr.out]; rfl, rfl⟩
  by_cases h2 : 8 < w
  · have hr : Hid (getR s at_ w = (0, 2)) := by show _ = _; unfold getR; rw [if_neg (by omega)]
    go_enter Try.func88, Try.ntmps88
    go_wp2_with fail
    go_ret2
    exact ⟨by rw [hr.out]; rfl, rfl⟩
  by_cases h3 : at_ < 0
  · have hr : Hid (getR s at_ w = (0, 2)) := by show _ = _; unfold getR; rw [if_neg (by omega)]
    go_enter Try.func88, Try.ntmps88
    go_wp2_with fail
    go_ret2
    exact ⟨by rw [hr.out]; rfl, rfl⟩
  obtain ⟨k, rfl⟩ := Int.eq_ofNat_of_zero_le (show 0 ≤ w by omega)
  obtain ⟨a, rfl⟩ := Int.eq_ofNat_of_zero_le (show 0 ≤ at_ by omega)
  by_cases h6 : (s.size : Int) ≤ a
  · have hr : Hid (getR s a k = (0, 5)) := by show _ = _; unfold getR; rw [if_pos (by omega), if_neg (by omega)]
    go_enter Try.func88, Try.ntmps88
    go_wp2_with fail
    go_ret2
    exact ⟨by rw [hr.out]; rfl, rfl⟩
  by_cases h4 : (a : Int) + k ≤ s.size
  · have hr : Hid (getR s a k = (Oct.val 256 (bytesAt s a k), 0)) := by show _ = _; unfold getR; rw [if_pos (by omega), if_pos h4]; rfl
    have h5 : ¬ (s.size : Int) - (a : Int) < (k : Int) := by omega
    have h7 : a + k ≤ s.size := by omega
    clear h4
    go_enter Try.func88, Try.ntmps88
    go_wp2_with fail
    go_loop [8, 9] (fun x i => ∃ j m : Nat, j ≤ k ∧ i = .int .i64 j ∧ x = .int .u64 m ∧ m = Oct.val 256 (bytesAt s a j)) (fun _ i => k - (intOf i).toNat)
    case atStart => exact ⟨0, 0, Nat.zero_le _, rfl, rfl, by simp [bytesAt, Oct.val]⟩
    case round =>
      obtain ⟨j, m, hk, rfl, rfl, hm⟩ := hrel
      by_cases hlt : j < k
      · have hb : m < 256 ^ 7 := by
          have h3 := val_bytesAt s a j
          rw [hm]; exact Nat.lt_of_lt_of_le h3 (Nat.pow_le_pow_right (by decide) (by omega))
        have hidx : a + j < s.size := by omega
        have HS := hid (bytesAt_succ s a j hidx)
        have HM := hid hm
        clear hm
        have hc : (s[a + j]'hidx).toNat < 256 := (s[a + j]'hidx).toNat_lt
        go_wp2_with fail
        go_round
        case rel =>
          refine ⟨j + 1, m * 256 + (s[a + j]'hidx).toNat, by omega, by go_num, by go_num, ?_⟩
          rw [HS.out, Oct.val_snoc, ← HM.out]
        case measure => simp [intOf]; omega
      · obtain rfl : j = k := by omega
        have HM := hid hm
        clear hm
        go_wp2_with fail
        go_ret2
        exact ⟨by rw [hr.out, HM.out]; rfl, rfl⟩
  · have hr : Hid (getR s a k = (0, 5)) := by show _ = _; unfold getR; rw [if_pos (by omega), if_neg h4]
    have h5 : (s.size : Int) - (a : Int) < (k : Int) := by omega
    clear h4
    go_enter Try.func88, Try.ntmps88
    go_wp2_with fail
    go_ret2
    exact ⟨by rw [hr.out]; rfl, rfl⟩

end C01
namespace C02
open C01 (ofNats ofNats_size ofNats_cons getR bytesAt)
open Vi (vl AtB)
open C03 (ba_ext ext_list ba_len ba_list)
def toN (s : ByteArray) : List Nat := s.data.toList.map UInt8.toNat
theorem toN_len (s : ByteArray) : (toN s).length = s.size := by unfold toN; rw [List.length_map]; exact ba_len s
theorem toN_cat (a b : ByteArray) : toN (a ++ b) = toN a ++ toN b := by unfold toN; rw [ba_list, List.map_append]
theorem toN_of {l : List Nat} (h : ∀ d ∈ l, d < 256) : toN (ofNats l) = l := C01.ofNats_bytes l h
theorem toN_vB (n : Nat) : toN (vB n) = vl n := toN_of (Vi.vl_lt n)
theorem u8_inj {a b : UInt8} (h : a.toNat = b.toNat) : a = b := UInt8.toNat_inj.1 h
theorem extract_of_at {s t : ByteArray} {i : Nat} (h : AtB s i (toN t)) : s.extract i (i + t.size) = t := by
  apply ba_ext
  rw [ext_list, Nat.add_sub_cancel_left]
  apply List.ext_getElem?
  intro j
  by_cases hj : j < t.size
  · obtain ⟨h1, h2⟩ := h j (by rw [toN_len]; exact hj)
    rw [List.getElem?_take, if_pos hj, List.getElem?_drop]
    have e1 : s.data.toList[i + j]? = some (s[i + j]'h1) := by
      rw [List.getElem?_eq_getElem (by rw [ba_len]; exact h1)]; rfl
    have e2 : t.data.toList[j]? = some (t[j]'hj) := by
      rw [List.getElem?_eq_getElem (by rw [ba_len]; exact hj)]; rfl
    rw [e1, e2]
    congr 1
    apply u8_inj
    rw [h2]
    simp [toN]
    rfl
  · rw [List.getElem?_take, if_neg hj, List.getElem?_eq_none (by rw [ba_len]; omega)]
theorem at_of {s : ByteArray} {pre l post : List Nat} (h : toN s = pre ++ (l ++ post)) : AtB s pre.length l := by
  intro j hj
  have hlen : (toN s).length = pre.length + (l.length + post.length) := by rw [h]; simp
  rw [toN_len] at hlen
  refine ⟨by omega, ?_⟩
  have e : (toN s)[pre.length + j]? = some l[j] := by
    rw [h, List.getElem?_append_right (by omega), Nat.add_sub_cancel_left, List.getElem?_append_left hj, List.getElem?_eq_getElem hj]
  unfold toN at e
  rw [List.getElem?_map, List.getElem?_eq_getElem (by rw [ba_len]; omega)] at e
  have e3 : (s.data[pre.length + j]'(by have : s.data.size = s.size := rfl; omega)).toNat = l[j] := by simpa using e
  exact e3
theorem bytesAt_of {s : ByteArray} {i : Nat} {l : List Nat} (h : AtB s i l) : bytesAt s i l.length = l := by
  have key : ∀ k, k ≤ l.length → bytesAt s i k = l.take k := by
    intro k
    induction k with
    | zero => intro _; simp [bytesAt]
    | succ k ih =>
      intro hk
      obtain ⟨h1, h2⟩ := h k (by omega)
      rw [C01.bytesAt_succ s i k h1, ih (by omega), h2, List.take_succ_eq_append_getElem (by omega)]
  rw [key l.length (Nat.le_refl _), List.take_length]
theorem get8 {s : ByteArray} {i n : Nat} (hn : n < 18446744073709551616) (h : AtB s i (Oct.dg 256 n 8)) : getR s (i : Int) 8 = (n, 0) := by
  have hl := Oct.dg_length 256 n 8
  have hr : i + 8 ≤ s.size := by
    obtain ⟨h1, _⟩ := h 0 (by omega)
    have := h.room (by omega)
    omega
  have hb := bytesAt_of h
  rw [hl] at hb
  unfold getR
  rw [if_pos (by omega), if_pos (by omega), show (8 : Int).toNat = 8 from rfl, show (i : Int).toNat = i from rfl, hb, Oct.val_dg _ _ (by decide), Nat.mod_eq_of_lt (by omega)]
set_option maxRecDepth 100000 in
set_option maxHeartbeats 4000000 in
theorem rtake_any (s t : ByteArray) (at_ : Nat) (W : World) (hs : s.size ≤ 1000000000000) (ht : t.size ≤ 32) (hat : AtB s at_ (vl t.size ++ toN t)) :
    Calls Try.prog 59 #[.string s, .int .i64 at_, .int .i64 32] W fun e w' => e = .returned (.tuple #[.string t, .int .i64 (at_ + (vl t.size).length + t.size : Nat), .int .i64 0]) ∧ W = w' := by
  have X := hid (rget_any s at_ t.size W hs (by omega) hat.left)
  have hroom : at_ + (vl t.size).length + t.size ≤ s.size := by
    have hp := Vi.vl_pos t.size
    obtain ⟨h1, _⟩ := hat 0 (by simp; omega)
    have := hat.room (by omega)
    rw [List.length_append, toN_len] at this
    omega
  have hx := extract_of_at hat.right
  obtain ⟨k, hk⟩ : ∃ k, k = t.size := ⟨_, rfl⟩
  obtain ⟨m, hm⟩ : ∃ m, m = at_ + (vl t.size).length := ⟨_, rfl⟩
  rw [← hk] at X ht
  rw [← hk] at hm
  rw [← hk, ← hm] at hroom hx ⊢
  rw [← hm] at X
  have HX := hid hx
  have q1 : ¬ (32 : Int) < (k : Int) := by omega
  have q2 : IntKind.i64.wrap ((s.size : Int) - (m : Int)) = ((s.size - m : Nat) : Int) := by rw [IntWalk.i64_in _ (by omega)]; omega
  obtain ⟨d, hd⟩ : ∃ d, d = s.size - m := ⟨_, rfl⟩
  rw [← hd] at q2
  have q3 : IntKind.u64.wrap (d : Int) = (d : Int) := IntWalk.u64_in _ (by omega)
  have q4 : ¬ (d : Int) < (k : Int) := by omega
  have q5 : IntKind.i64.wrap (k : Int) = (k : Int) := IntWalk.i64_in _ (by omega)
  have q6 : IntKind.i64.wrap ((m : Int) + (k : Int)) = ((m + k : Nat) : Int) := by rw [IntWalk.i64_in _ (by omega)]; omega
  clear hx hat hm hk hd
  go_enter Try.func59, Try.ntmps59
  go_wp2_with fail
  refine X.out.mono ?_
  rintro e w' ⟨rfl, rfl⟩
  go_wp2_with fail
  go_ret3
  exact ⟨by rw [HX.out]; rfl, rfl⟩
end C02
end Go.Proofs.Ytcohcanakicmpaa
