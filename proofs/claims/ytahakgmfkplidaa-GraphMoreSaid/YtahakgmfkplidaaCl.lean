/- General lemmas: cells of a block written one after another; 'clear(s)'. No program in sight. -/
import Derived.Test.YtahakgmfkplidaaOw
import Derived.Laws.IdiomCopy
namespace Go.Peri
open Go.RowKit
theorem Blk.setCells {t : TypeId} {g : Nat} : ∀ (vs : List Value) (o : Nat) {w : World} {cs : Array Value}, Blk w g cs t → ∃ cs', Blk (w.setCells g o vs) g cs' t ∧ cs'.size = cs.size
  | [], _, _, cs, h => ⟨cs, h, rfl⟩
  | v :: r, o, w, cs, h => by
    obtain ⟨cs', h1, h2⟩ := Blk.setCells r (o + 1) (h.set o v)
    exact ⟨cs', h1, by simpa using h2⟩
theorem Only.setCells {S : List Nat} {a : World} {g : Nat} (hg : g ∈ S) : ∀ (vs : List Value) (o : Nat) {w : World}, Only S a w → Only S a (w.setCells g o vs)
  | [], _, _, h => h
  | v :: r, o, _, h => Only.setCells hg r (o + 1) (h.setCell (p := ⟨g, o, none⟩) hg v)
/-- A block whose first cells are told owns its row. -/
theorem owns_of_blk {w : World} {base g cap : Nat} {e : TypeId} {size n : Nat} {cs : Array Value} {xs : List Value} (h : Blk w g cs e) (hb : base ≤ g) (hc : cs.size = cap * size) (hn : n ≤ cap) (hm : cap ≤ maxLen) (hl : xs.length = n * size) (hx : ∀ i, i < xs.length → cs[i]? = xs[i]?) :
    w.ownsRow base e size (.slice (some ⟨g, 0, none⟩) n cap) n xs := by
  refine ⟨hl, .inr ⟨g, cap, cs, rfl, hb, h, hn, hm, hc, ?_⟩⟩
  refine List.ext_getElem? fun i => ?_
  by_cases hi : i < xs.length
  · rw [List.getElem?_take, if_pos (by omega), Array.getElem?_toList, hx i hi]
  · rw [List.getElem?_take, if_neg (by omega), List.getElem?_eq_none (by omega)]
/-- 'clear(s)'. -/
theorem run_clear_cells {P : Program} {t e : TypeId} {size : Nat} (w : World) (ht : P.underlying t = some (.slice e)) (z : Value) (hv : ∀ w, (zeroValue e).run P w = .ok z w) (hz : z.cells.size = size) (h1 : ∀ v ∈ z.cells.toList, v.oneCell' = true) (b o n c : Nat) (hn : 0 < n)
    (hc : ∀ j, j < n * size → (w.cell? ⟨b, o + j, none⟩).isSome = true) (hf : ∀ j, j < n * size → w.frozen? ⟨b, o + j, none⟩ = false) :
    ∃ zs : List Value, zs.length = n * size ∧ ∀ ty, (Builtin.clear_ #[t] ty #[.slice (some ⟨b, o, none⟩) n c]).run P w = .ok (.tuple #[]) (w.setCells b o zs) := by
  have hlen : (Builtin.zeroCells z.cells n).toList.length = n * size := by rw [Array.length_toList, size_zeroCells, hz]
  have hone : ∀ v ∈ (Builtin.zeroCells z.cells n).toList, v.oneCell' = true := by
    intro v hv
    refine h1 v ?_
    rw [Builtin.zeroCells, Array.toList_map] at hv
    obtain ⟨i, hi, rfl⟩ := List.mem_map.1 hv
    have hi2 : i < n * z.cells.size := by simpa using hi
    have hp : 0 < z.cells.size := by
      rcases Nat.eq_zero_or_pos z.cells.size with h | h
      · rw [h] at hi2; simp at hi2
      · exact h
    have hm : i % z.cells.size < z.cells.size := Nat.mod_lt _ hp
    rw [getElem!_pos z.cells _ hm]
    simp
  refine ⟨_, hlen, fun ty => ?_⟩
  have hst := run_storeCells_cells (P := P) b o (Builtin.zeroCells z.cells n).toList 0 w (by rw [hlen]; simpa using hc) (by rw [hlen]; simpa using hf) hone
  simp only [Nat.add_zero] at hst
  obtain ⟨m, rfl⟩ : ∃ m, n = m + 1 := ⟨n - 1, by omega⟩
  simp [Builtin.clear_, run_underlying ht, hv, hst]
end Go.Peri
