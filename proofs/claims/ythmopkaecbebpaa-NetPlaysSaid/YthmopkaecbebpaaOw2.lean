/- General lemmas on rows that are appended to, deleted from, cleared. No program in sight. -/
import Derived.Test.YthmopkaecbebpaaOw
import Derived.StillTailTactics
import Derived.Laws.LoneSync
import Derived.Maps.AppendAt
import Derived.Deep.RegionLaw
import Derived.Laws.IdiomCopy
import Derived.Lib.MinMax
namespace Go.Peri
open Go.RowKit
theorem Only.of_grown {w w' : World} {row : Option Nat} (h : w.grownBy w' row) : Only row.toList w w' :=
  ⟨h.os, h.tape, h.output, h.size, fun k hk hs => h.block k hk (by rintro rfl; simp at hs)⟩
/-- 'append(out, x)' with where the new row lies, inside a region that draws its order. -/
theorem step_push_at {P : Program} {t e : TypeId} {size bytes : Nat} (E : Elem P t e size bytes) {ops : Array Oper} {o : Oper} {a : Act} {Q : Exit → Act → World → Prop} {K : Act → World → Prop} {X : Prop} {w w0 : World} (hgd : o.guard = none) (s x : Operand)
    (ho : o.op = .call { callee := .builtin .append, args := #[s, x], argTypes := #[t, t] }) (base : Nat) (v : Value) (n : Nat) (xs news : List Value) (hs : a.eval s = v) (hown : w0.ownsRow base e size v n xs) {T : TypeId}
    (hw : w = w0.alloc (.cells news.toArray T)) (hx : a.eval x = .slice (some ⟨w0.heap.size, 0, none⟩) 1 1) (hl : news.length = size) (h1 : ∀ u ∈ news, u.oneCell' = true)
    (h63 : n + 1 ≤ maxLen) (hbytes : (n + 1) * bytes ≤ 140737488355328) (hbase : base ≤ w0.heap.size)
    (h : ∀ hb cap w', w'.ownsRow base e size (.slice (some ⟨hb, 0, none⟩) (n + 1) cap) (n + 1) (xs ++ news) → Only v.ownBlock.toList w0 w' → (some hb = v.ownBlock ∨ w0.heap.size ≤ hb) → K (a.put o.dst (.slice (some ⟨hb, 0, none⟩) (n + 1) cap)) w') :
    if Region.wanted o (yielded ops a.tmps) = true then Oper.wp P o a w K Q else X := by
  have hwant : Region.wanted o (yielded ops a.tmps) = true := by simp [Region.wanted, hgd]
  rw [if_pos hwant]
  subst hw
  obtain ⟨i, z, hi, hz, hsz, hby, hzs⟩ := E.info
  obtain ⟨v', w', hr, h2, h3, _, h5⟩ := run_append_own_at (P := P) (w0.alloc (.cells news.toArray T)) base t o.type e i z size bytes E.under hi hz hsz hby hzs E.pos v n xs (hown.alloc _) ⟨w0.heap.size, 0, none⟩ 1 1 news (by omega) (by
    intro j u hj
    have e1 : (⟨w0.heap.size, 0, none⟩ : Addr).add j = ⟨w0.heap.size, j, none⟩ := by
      unfold Addr.add; split
      · rename_i hz; rw [hz]
      · simp
    rw [e1, World.cell?_alloc_new]
    simpa using hj) h1 h63 hbytes (by simp; omega)
  have hform : ∃ hb cap, v' = .slice (some ⟨hb, 0, none⟩) (n + 1) cap := by
    rcases h2.2 with ⟨_, h0⟩ | ⟨g, cap, cur, rfl, _⟩
    · omega
    · exact ⟨g, cap, rfl⟩
  obtain ⟨hb, cap, rfl⟩ := hform
  have hK := h hb cap w' h2 ((Only.refl _ w0).alloc _ |>.trans (Only.of_grown h3)) (by
    rcases h5 with h5 | h5
    · exact .inl h5
    · simp [Value.ownBlock] at h5; exact .inr (by omega))
  unfold Oper.wp execOp
  simp only [ho, resolve, invoke, builtin, Sem.run_bind, Sem.run_pure, Result.andThen_ok, List.map_toArray, List.map_cons, List.map_nil, hs, hx, hr]
  exact hK
theorem Blk.setCells {t : TypeId} {g : Nat} : ∀ (vs : List Value) (o : Nat) {w : World} {cs : Array Value}, Blk w g cs t → ∃ cs', Blk (w.setCells g o vs) g cs' t ∧ cs'.size = cs.size
  | [], _, _, cs, h => ⟨cs, h, rfl⟩
  | v :: r, o, w, cs, h => by
    obtain ⟨cs', h1, h2⟩ := Blk.setCells r (o + 1) (h.set o v)
    exact ⟨cs', h1, by simpa using h2⟩
theorem Only.setCells {S : List Nat} {a : World} {g : Nat} (hg : g ∈ S) : ∀ (vs : List Value) (o : Nat) {w : World}, Only S a w → Only S a (w.setCells g o vs)
  | [], _, _, h => h
  | v :: r, o, _, h => Only.setCells hg r (o + 1) (h.setCell (p := ⟨g, o, none⟩) hg v)
/-- A block whose first cells are told owns its row. -/
theorem owns_of_blk {w : World} {base g cap : Nat} {e : TypeId} {size n : Nat} {cs : Array Value} {xs : List Value} (h : Blk w g cs e) (hb : base ≤ g) (hc : cs.size = cap * size) (hn : n ≤ cap) (hm : cap ≤ maxLen) (hl : xs.length = n * size) (hx : ∀ i, i < xs.length → cs[i]? = xs[i]?) :
    w.ownsRow base e size (.slice (some ⟨g, 0, none⟩) n cap) n xs := by
  refine ⟨hl, .inr ⟨g, cap, cs, rfl, hb, h, hn, hm, hc, ?_⟩⟩
  refine List.ext_getElem? fun i => ?_
  by_cases hi : i < xs.length
  · rw [List.getElem?_take, if_pos (by omega), Array.getElem?_toList, hx i hi]
  · rw [List.getElem?_take, if_neg (by omega), List.getElem?_eq_none (by omega)]
/-- 'clear(s)'. -/
theorem run_clear_cells {P : Program} {t e : TypeId} {size : Nat} (w : World) (ht : P.underlying t = some (.slice e)) (z : Value) (hv : ∀ w, (zeroValue e).run P w = .ok z w) (hz : z.cells.size = size) (h1 : ∀ v ∈ z.cells.toList, v.oneCell' = true) (b o n c : Nat) (hn : 0 < n)
    (hc : ∀ j, j < n * size → (w.cell? ⟨b, o + j, none⟩).isSome = true) (hf : ∀ j, j < n * size → w.frozen? ⟨b, o + j, none⟩ = false) :
    ∃ zs : List Value, zs.length = n * size ∧ ∀ ty, (Builtin.clear_ #[t] ty #[.slice (some ⟨b, o, none⟩) n c]).run P w = .ok (.tuple #[]) (w.setCells b o zs) := by
  have hlen : (Builtin.zeroCells z.cells n).toList.length = n * size := by rw [Array.length_toList, size_zeroCells, hz]
  have hone : ∀ v ∈ (Builtin.zeroCells z.cells n).toList, v.oneCell' = true := by
    intro v hv
    refine h1 v ?_
    rw [Builtin.zeroCells, Array.toList_map] at hv
    obtain ⟨i, hi, rfl⟩ := List.mem_map.1 hv
    have hi2 : i < n * z.cells.size := by simpa using hi
    have hp : 0 < z.cells.size := by
      rcases Nat.eq_zero_or_pos z.cells.size with h | h
      · rw [h] at hi2; simp at hi2
      · exact h
    have hm : i % z.cells.size < z.cells.size := Nat.mod_lt _ hp
    rw [getElem!_pos z.cells _ hm]
    simp
  refine ⟨_, hlen, fun ty => ?_⟩
  have hst := run_storeCells_cells (P := P) b o (Builtin.zeroCells z.cells n).toList 0 w (by rw [hlen]; simpa using hc) (by rw [hlen]; simpa using hf) hone
  simp only [Nat.add_zero] at hst
  obtain ⟨m, rfl⟩ : ∃ m, n = m + 1 := ⟨n - 1, by omega⟩
  simp [Builtin.clear_, run_underlying ht, hv, hst]
theorem RowsOf.take {α : Type} {p : Nat → Prop} {enc : α → List Value} {k : Nat} {w : World} {a : Option Addr} {n cap : Nat} {l : List α} (h : RowsOf p enc k w (.slice a n cap) l) (m : Nat) (hm : m ≤ n) : RowsOf p enc k w (.slice a m cap) (l.take m) := by
  obtain ⟨a', cap', e, h2, h3, h4, h5⟩ := h
  cases e
  refine ⟨a, cap, ?_, by rw [List.length_take]; omega, h3, h4, ?_⟩
  · rw [List.length_take, Nat.min_eq_left hm]
  · refine h5.imp (fun e => by rw [e]; simp) ?_
    rintro ⟨b, off, g1, g2, g3⟩
    refine ⟨b, off, g1, g2, fun i hi j u hu => ?_⟩
    rw [List.length_take] at hi
    rw [List.getElem_take] at hu
    exact g3 i (by omega) j u hu
theorem RowsOf.drop {α : Type} {p : Nat → Prop} {enc : α → List Value} {k : Nat} {w : World} {b off n cap : Nat} {l : List α} (h : RowsOf p enc k w (.slice (some ⟨b, off, none⟩) n cap) l) (m : Nat) (hm : m ≤ n) : RowsOf p enc k w (.slice (some ⟨b, off + m * k, none⟩) (n - m) (cap - m)) (l.drop m) := by
  obtain ⟨a', cap', e, h2, h3, h4, h5⟩ := h
  cases e
  refine ⟨_, _, by rw [List.length_drop], by rw [List.length_drop]; omega, by omega, by simp, ?_⟩
  refine h5.imp (fun e => by rw [e]; simp) ?_
  rintro ⟨b', off', g1, g2, g3⟩
  cases g1
  refine ⟨b, off + m * k, rfl, g2, fun i hi j u hu => ?_⟩
  rw [List.length_drop] at hi
  rw [List.getElem_drop] at hu
  have := g3 (m + i) (by omega) j u hu
  rw [← this]
  congr 2
  rw [Nat.add_mul]
  omega
theorem RowsOf.dropEnd {α : Type} (p : Nat → Prop) (enc : α → List Value) (k : Nat) (w : World) (a : Addr) (l : List α) (m : Nat) (hm : l.length ≤ m) : RowsOf p enc k w (.slice (some a) (l.length - m) 0) (l.drop m) := by
  have hl : l.drop m = [] := List.drop_eq_nil_of_le hm
  rw [hl]
  exact ⟨_, _, by rw [show l.length - m = 0 by omega]; rfl, by simp, by simp, by simp, .inl rfl⟩
theorem RowsOf.dropIf {α : Type} {p : Nat → Prop} {enc : α → List Value} {k : Nat} {w : World} {b off n cap : Nat} {l : List α} (h : RowsOf p enc k w (.slice (some ⟨b, off, none⟩) n cap) l) (m : Nat) (hm : m ≤ n) :
    RowsOf p enc k w (.slice (if cap = m then some ⟨b, off, none⟩ else some ⟨b, off + m * k, none⟩) (n - m) (cap - m)) (l.drop m) := by
  by_cases hc : cap = m
  · obtain ⟨a', cap', e, h2, h3, h4, h5⟩ := h
    cases e
    have hl : l.drop m = [] := List.drop_eq_nil_of_le (by omega)
    rw [if_pos hc, hl]
    exact ⟨_, _, by rw [show l.length - m = 0 by omega]; rfl, by simp, by omega, by simp, .inl rfl⟩
  · rw [if_neg hc]
    exact h.drop m hm
theorem RowsOf.dropAt {α : Type} {p : Nat → Prop} {enc : α → List Value} {k : Nat} {w : World} {ad : Addr} {n cap : Nat} {l : List α} (h : RowsOf p enc k w (.slice (some ad) n cap) l) (m : Nat) (hm : m ≤ n) : RowsOf p enc k w (.slice (some (ad.add (m * k))) (n - m) (cap - m)) (l.drop m) := by
  obtain ⟨a', cap', e, h2, h3, h4, h5⟩ := h
  cases e
  by_cases hl : l.drop m = []
  · rw [hl]
    exact ⟨_, _, by have : l.length ≤ m := List.drop_eq_nil_iff.1 hl; rw [show l.length - m = 0 by omega]; rfl, by simp, by omega, by simp, .inl rfl⟩
  · obtain ⟨b, off, g1, g2, g3⟩ := h5.resolve_left (by rintro rfl; simp at hl)
    cases g1
    have := RowsOf.drop (k := k) ⟨_, _, rfl, h2, h3, h4, .inr ⟨b, off, rfl, g2, g3⟩⟩ m hm
    rw [Addr.add_lit]
    exact this
theorem RowsOf.dropCap {α : Type} {p : Nat → Prop} {enc : α → List Value} {k : Nat} {w : World} {ad : Addr} {n cap : Nat} {l : List α} (h : RowsOf p enc k w (.slice (some ad) n cap) l) (m : Nat) (hc : cap = m) : RowsOf p enc k w (.slice (some ad) (n - m) 0) (l.drop m) := by
  obtain ⟨a', cap', e, h2, h3, h4, h5⟩ := h
  cases e
  have hl : l.drop m = [] := List.drop_eq_nil_of_le (by omega)
  rw [hl]
  exact ⟨_, _, by rw [show l.length - m = 0 by omega]; rfl, by simp, by simp, by simp, .inl rfl⟩
theorem owns_later {w w' : World} {base : Nat} {e : TypeId} {size : Nat} {v : Value} {n : Nat} {xs : List Value} (h : w.ownsRow base e size v n xs) (hb : Below w.heap.size w w') : w'.ownsRow base e size v n xs := by
  obtain ⟨h1, h2⟩ := h
  refine ⟨h1, h2.imp id ?_⟩
  rintro ⟨k, cp, cur, q1, q2, q3, q4⟩
  exact ⟨k, cp, cur, q1, q2, (hb.block k (Array.getElem?_eq_some_iff.1 q3).1).trans q3, q4⟩
theorem owns_only {S : List Nat} {w w' : World} {base : Nat} {e : TypeId} {size : Nat} {v : Value} {n : Nat} {xs : List Value} (h : w.ownsRow base e size v n xs) (ho : Only S w w') (hs : ∀ k, k ∈ S → k < base) : w'.ownsRow base e size v n xs := by
  obtain ⟨h1, h2⟩ := h
  refine ⟨h1, h2.imp id ?_⟩
  rintro ⟨k, cp, cur, q1, q2, q3, q4⟩
  exact ⟨k, cp, cur, q1, q2, (ho.block k (Array.getElem?_eq_some_iff.1 q3).1 (fun hm => by have := hs k hm; omega)).trans q3, q4⟩
theorem rows_of_blk {α : Type} {enc : α → List Value} {k : Nat} (hk : ∀ x, (enc x).length = k) {w : World} {g t : Nat} {l : List α} (h : Blk w g (l.flatMap enc).toArray t) (hm : l.length ≤ maxLen) : RowsOf (· = g) enc k w (.slice (some ⟨g, 0, none⟩) l.length l.length) l := by
  refine ⟨_, _, rfl, Nat.le_refl _, hm, by simp, .inr ⟨g, 0, rfl, rfl, fun i hi j u hu => ?_⟩⟩
  have hj : j < k := by have := (List.getElem?_eq_some_iff.1 hu).1; rw [hk] at this; exact this
  rw [h.cell, Nat.zero_add, List.getElem?_toArray, flat_get hk l i hi j hj]
  exact hu
theorem drewL {B : Nat} {a w : World} (h : Below B a.drew w) : Below B a w := ⟨h.os, h.tape, h.output, h.size, h.block⟩
end Go.Peri
