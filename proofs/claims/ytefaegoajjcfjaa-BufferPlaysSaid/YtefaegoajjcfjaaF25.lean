/- Walks of layer 25 (buffer): the first ones deleted (slices.Delete); no condition. -/
import Derived.Test.YtefaegoajjcfjaaE25
import Derived.Deep.RegionLaw
import Derived.Laws.IdiomCopy
namespace Go.Peri
open Go.RowKit
theorem Blk.setCells {t : TypeId} {g : Nat} : ∀ (vs : List Value) (o : Nat) {w : World} {cs : Array Value}, Blk w g cs t → ∃ cs', Blk (w.setCells g o vs) g cs' t ∧ cs'.size = cs.size
  | [], _, _, cs, h => ⟨cs, h, rfl⟩
  | v :: r, o, w, cs, h => by
    obtain ⟨cs', h1, h2⟩ := Blk.setCells r (o + 1) (h.set o v)
    exact ⟨cs', h1, by simpa using h2⟩
theorem Only.setCells {S : List Nat} {a : World} {g : Nat} (hg : g ∈ S) : ∀ (vs : List Value) (o : Nat) {w : World}, Only S a w → Only S a (w.setCells g o vs)
  | [], _, _, h => h
  | v :: r, o, _, h => Only.setCells hg r (o + 1) (h.setCell (p := ⟨g, o, none⟩) hg v)
/-- A block whose first cells are told owns its row. -/
theorem owns_of_blk {w : World} {base g cap : Nat} {e : TypeId} {size n : Nat} {cs : Array Value} {xs : List Value} (h : Blk w g cs e) (hb : base ≤ g) (hc : cs.size = cap * size) (hn : n ≤ cap) (hm : cap ≤ maxLen) (hl : xs.length = n * size) (hx : ∀ i, i < xs.length → cs[i]? = xs[i]?) :
    w.ownsRow base e size (.slice (some ⟨g, 0, none⟩) n cap) n xs := by
  refine ⟨hl, .inr ⟨g, cap, cs, rfl, hb, h, hn, hm, hc, ?_⟩⟩
  refine List.ext_getElem? fun i => ?_
  by_cases hi : i < xs.length
  · rw [List.getElem?_take, if_pos (by omega), Array.getElem?_toList, hx i hi]
  · rw [List.getElem?_take, if_neg (by omega), List.getElem?_eq_none (by omega)]
/-- 'clear(s)'. -/
theorem run_clear_cells {P : Program} {t e : TypeId} {size : Nat} (w : World) (ht : P.underlying t = some (.slice e)) (z : Value) (hv : ∀ w, (zeroValue e).run P w = .ok z w) (hz : z.cells.size = size) (h1 : ∀ v ∈ z.cells.toList, v.oneCell' = true) (b o n c : Nat) (hn : 0 < n)
    (hc : ∀ j, j < n * size → (w.cell? ⟨b, o + j, none⟩).isSome = true) (hf : ∀ j, j < n * size → w.frozen? ⟨b, o + j, none⟩ = false) :
    ∃ zs : List Value, zs.length = n * size ∧ ∀ ty, (Builtin.clear_ #[t] ty #[.slice (some ⟨b, o, none⟩) n c]).run P w = .ok (.tuple #[]) (w.setCells b o zs) := by
  have hlen : (Builtin.zeroCells z.cells n).toList.length = n * size := by rw [Array.length_toList, size_zeroCells, hz]
  have hone : ∀ v ∈ (Builtin.zeroCells z.cells n).toList, v.oneCell' = true := by
    intro v hv
    refine h1 v ?_
    rw [Builtin.zeroCells, Array.toList_map] at hv
    obtain ⟨i, hi, rfl⟩ := List.mem_map.1 hv
    have hi2 : i < n * z.cells.size := by simpa using hi
    have hp : 0 < z.cells.size := by
      rcases Nat.eq_zero_or_pos z.cells.size with h | h
      · rw [h] at hi2; simp at hi2
      · exact h
    have hm : i % z.cells.size < z.cells.size := Nat.mod_lt _ hp
    rw [getElem!_pos z.cells _ hm]
    simp
  refine ⟨_, hlen, fun ty => ?_⟩
  have hst := run_storeCells_cells (P := P) b o (Builtin.zeroCells z.cells n).toList 0 w (by rw [hlen]; simpa using hc) (by rw [hlen]; simpa using hf) hone
  simp only [Nat.add_zero] at hst
  obtain ⟨m, rfl⟩ : ∃ m, n = m + 1 := ⟨n - 1, by omega⟩
  simp [Builtin.clear_, run_underlying ht, hv, hst]
end Go.Peri
namespace Go.Proofs.Ytefaegoajjcfjaa
open Go.RowKit Go.Peri
namespace C25

def zsp : Value := .agg #[.int .u64 0, .int .u64 0, .int .u64 0, .int .u64 0, .string ByteArray.empty, .int .i64 0, .int .i64 0, .int .i64 0, .bool false, .int .i64 0, .int .i64 0]
theorem drop_cells (l : List Sp) (j : Nat) : (l.flatMap Sp.enc).drop (j * 11) = (l.drop j).flatMap Sp.enc := by
  induction l generalizing j with
  | nil => simp
  | cons x l ih =>
    cases j with
    | zero => simp
    | succ j =>
      rw [List.flatMap_cons, show (j + 1) * 11 = x.enc.length + j * 11 by rw [Sp.enc_length]; omega, ← List.drop_drop, List.drop_left, List.drop_succ_cons]
      exact ih j

def DelQ (base hb cap n j : Nat) (l : List Sp) (w : World) (v : Value) (w' : World) : Prop := v = .slice (some ⟨hb, 0, none⟩) (n - j) cap ∧ Only [hb] w w' ∧ w'.ownsRow base 79 11 v (n - j) ((l.drop j).flatMap Sp.enc)

set_option maxRecDepth 100000 in
set_option maxHeartbeats 4000000 in
theorem delete_pos (base hb cap j : Nat) (l : List Sp) (w : World) (h : w.ownsRow base 79 11 (.slice (some ⟨hb, 0, none⟩) l.length cap) l.length (l.flatMap Sp.enc)) (hj : 0 < j) (hjl : j ≤ l.length) (hl : l.length ≤ 1000000) :
    Calls Try.prog 70 #[.slice (some ⟨hb, 0, none⟩) l.length cap, .int .i64 0, .int .i64 j] w (Ret (DelQ base hb cap l.length j l w)) := by
  obtain ⟨d, hd⟩ : ∃ d, l.length = d + j := ⟨l.length - j, by omega⟩
  rw [hd] at h hl ⊢
  obtain ⟨hlen, h2⟩ := h
  obtain ⟨g, cp, cur, e, hbg, hheap, hnc, hcm, hcs, htake⟩ : ∃ g cp cur, Value.slice (some ⟨hb, 0, none⟩) (d + j) cap = .slice (some ⟨g, 0, none⟩) (d + j) cp ∧ base ≤ g ∧ w.heap[g]? = some (.cells cur 79 (0, 0)) ∧ d + j ≤ cp ∧ cp ≤ maxLen ∧ cur.size = cp * 11 ∧ cur.toList.take ((d + j) * 11) = l.flatMap Sp.enc := by
    rcases h2 with ⟨h3, _⟩ | h3
    · cases h3
    · exact h3
  cases e
  have hblk : Blk w hb cur 79 := hheap
  obtain ⟨i0, z0, hi0, hz0, hs0, hb0, hzs0⟩ := elem71.info
  obtain ⟨news, hnews⟩ : ∃ news, news = (l.drop j).flatMap Sp.enc := ⟨_, rfl⟩
  have hnl : news.length = d * 11 := by rw [hnews, flat_length Sp.enc_length, List.length_drop, hd, Nat.add_sub_cancel]
  have hcell : ∀ i, i < cap * 11 → ∃ u, w.cell? ⟨hb, i, none⟩ = some u := fun i hi => by
    rw [hblk.cell]
    exact ⟨cur[i]'(by omega), Array.getElem?_eq_getElem (by omega)⟩
  have hsrc : ∀ q u, news[q]? = some u → w.cell? ⟨hb, j * 11 + q, none⟩ = some u := by
    intro q u hu
    have hq := (List.getElem?_eq_some_iff.1 hu).1
    rw [hnews, ← drop_cells, List.getElem?_drop, ← htake, List.getElem?_take, if_pos (by omega), Array.getElem?_toList] at hu
    rw [hblk.cell]; exact hu
  obtain ⟨W1, hW1⟩ : ∃ W1, W1 = w.drew.setCells hb 0 news := ⟨_, rfl⟩
  obtain ⟨cs1, hb1, hc1⟩ := Blk.setCells (w := w.drew) (cs := cur) (t := 79) news 0 hblk
  rw [← hW1] at hb1
  have hcell1 : ∀ i, i < cap * 11 → (W1.cell? ⟨hb, i, none⟩).isSome = true := fun i hi => by
    rw [hb1.cell, Array.getElem?_eq_getElem (by omega)]; rfl
  have hz : ∃ z : Value, (∀ w, (zeroValue 79).run Try.prog w = .ok z w) ∧ z.cells.size = 11 ∧ ∀ v ∈ z.cells.toList, v.oneCell' = true := by
    refine ⟨zsp, Try.zeroValue79, rfl, ?_⟩
    intro v hv
    simp only [zsp, Value.cells, List.mem_cons, List.not_mem_nil, or_false] at hv
    rcases hv with rfl | rfl | rfl | rfl | rfl | rfl | rfl | rfl | rfl | rfl | rfl <;> rfl
  obtain ⟨z, hzv, hzsz, hzone⟩ := hz
  obtain ⟨zs, hzl, hcl⟩ := run_clear_cells (P := Try.prog) (t := 71) (e := 79) (size := 11) W1 Try.underlying71 z hzv hzsz hzone hb (d * 11) j (cap - d) hj (fun q hq => hcell1 _ (by have := Nat.mul_le_mul_right 11 hnc; rw [Nat.add_mul] at this; omega)) (fun q _ => hb1.free _)
  obtain ⟨cs2, hb2, hc2⟩ := Blk.setCells (w := W1) (cs := cs1) (t := 79) zs (d * 11) hb1
  have fin : DelQ base hb cap (d + j) j l w (.slice (some ⟨hb, 0, none⟩) d cap) (W1.setCells hb (d * 11) zs) := by
    refine ⟨by rw [Nat.add_sub_cancel], ?_, ?_⟩
    · have h1 : Only [hb] w W1 := by rw [hW1]; exact Only.setCells (by simp) _ _ (Only.refl _ _).drew
      exact Only.setCells (by simp) _ _ h1
    · rw [Nat.add_sub_cancel, ← hnews]
      refine owns_of_blk hb2 hbg (by rw [hc2, hc1, hcs]) (by omega) hcm hnl fun i hi => ?_
      rw [← hb2.cell, World.cell?_setCells_out hb zs (d * 11) W1 ⟨hb, i, none⟩ (fun _ _ => .inl (by show i < d * 11; omega)), hW1]
      have hin := World.cell?_setCells_in hb news 0 w.drew (fun q hq => by
        obtain ⟨u, hu⟩ := hcell (0 + q) (by have := Nat.mul_le_mul_right 11 hnc; rw [Nat.add_mul] at this; omega)
        show (w.cell? _).isSome = true
        rw [hu]; rfl) i hi
      rw [Nat.zero_add] at hin
      rw [hin, List.getElem?_eq_getElem hi]
  have HFin := hid fin
  have HNone := hid (one_sp (l.drop j))
  have HSrc := hid hsrc
  have HSp : Hid (∀ q, q < news.length → (w.drew.cell? ⟨hb, 0 + 0 * 11 + q, none⟩).isSome = true ∧ w.drew.frozen? ⟨hb, 0 + 0 * 11 + q, none⟩ = false) := by
    intro q hq
    obtain ⟨u, hu⟩ := hcell (0 + 0 * 11 + q) (by have := Nat.mul_le_mul_right 11 hnc; rw [Nat.add_mul] at this; omega)
    exact ⟨by show (w.cell? _).isSome = true; rw [hu]; rfl, hblk.free _⟩
  have HN := hid hnews
  have HW1 : Hid (W1 = w.drew.setCells hb (0 + 0 * 11) news) := hW1
  have HNL := hid hnl
  have k1 : (0 : Int) ≤ (j : Int) := by omega
  have k2 : (j : Int) ≤ (d : Int) + (j : Int) := by omega
  have k3 : (d : Int) + (j : Int) ≤ (cap : Int) := by omega
  have k4 : (j : Int) ≤ (cap : Int) := by omega
  have k5 : (0 : Int) ≤ (d : Int) := by omega
  have k6 : (d : Int) ≤ (d : Int) + (j : Int) := by omega
  have k7 : (d : Int) ≤ (cap : Int) := by omega
  have k8 : (0 : Int) ≤ (cap : Int) := by omega
  have q0 : ((0 : Int) == (j : Int)) = false := by rw [beq_eq_false_iff_ne]; omega
  have hcd : ¬ cap = d := by omega
  have hj0 : ¬ j = 0 := by omega
  clear fin hnews hW1 hnl hsrc hcell hcell1 hb1 hb2 hc1 hc2 hzl hzv hzsz hzone htake hheap hblk h2 hlen hcs
  by_cases hcj : cap = j
  · obtain rfl : d = 0 := by omega
    subst hcj
    have HNil : Hid (∀ q u, news[q]? = some u → w.drew.cell? ((⟨hb, 0, none⟩ : Addr).add q) = some u) := by
      intro q u hu
      have := (List.getElem?_eq_some_iff.1 hu).1
      rw [HNL.out] at this
      omega
    have kk1 : (cap : Int) ≤ (cap : Int) := by omega
    simp only [Nat.zero_mul, Nat.sub_zero] at hcl
    go_enter Try.func70, Try.ntmps70
    go_wp2_with fail
    go_region_law (refine step_append_room rfl (.tmp 22) (.tmp 25) 71 rfl 79 i0 11 Try.underlying71 hi0 hs0 hb 0 0 cap (by simp [Act.eval, Act.put]) ⟨hb, 0, none⟩ 0 0 news (by simp [Act.eval, Act.put]) HNL.out HNil.out (by rw [HN.out]; exact HNone.out) (by omega) HSp.out ?_; rw [← HW1.out])
    go_wp2_with fail
    go_ret
    exact ⟨_, rfl, HFin.out⟩
  · go_enter Try.func70, Try.ntmps70
    go_wp2_with fail
    go_region_law (refine step_append_room rfl (.tmp 22) (.tmp 25) 71 rfl 79 i0 11 Try.underlying71 hi0 hs0 hb 0 0 cap (by simp [Act.eval, Act.put]) ⟨hb, j * 11, none⟩ d (cap - j) news (by simp [Act.eval, Act.put]) HNL.out (fun q u hu => by rw [addr_add]; exact HSrc.out q u hu) (by rw [HN.out]; exact HNone.out) (by omega) HSp.out ?_; rw [← HW1.out])
    go_wp2_with fail
    go_ret
    exact ⟨_, rfl, HFin.out⟩
end C25
end Go.Proofs.Ytefaegoajjcfjaa
