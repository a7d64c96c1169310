/- Walks of layer 22 (wheel): a new one, how much is on it, the time; something set; no condition. -/
import Derived.Test.YthmopkaecbebpaaD22
import Derived.Test.YthmopkaecbebpaaOw2
namespace Go.Proofs.Ythmopkaecbebpaa
open Go.RowKit Go.Peri
namespace C22
theorem elemS : Elem Try.prog 125 132 2 16 := Elem.mk' (z := .agg #[.int .i64 0, .int .i64 0]) Try.underlying125 (by kernel_rfl) rfl (by decide)
theorem elemD : Elem Try.prog 26 130 2 16 := Elem.mk' (z := .agg #[.int .i64 0, .int .i64 0]) Try.underlying26 (by kernel_rfl) rfl (by decide)
theorem elemI : Elem Try.prog 31 3 1 8 := Elem.mk' (z := .int .i64 0) Try.underlying31 (by kernel_rfl) rfl (by decide)
set_option maxRecDepth 100000 in
theorem new_any (w : World) : Calls Try.prog 18 #[] w fun e w' => e = .returned (.pointer (some ⟨w.heap.size, 0, none⟩)) ∧ Below w.heap.size w w' ∧ w'.heap.size = w.heap.size + 1 ∧ Hid (WhIs w' w.heap.size [w.heap.size] 0 []) := by
  go_enter Try.func18, Try.ntmps18
  go_wp2_with fail
  go_ret
  exact ⟨rfl, by go_grown, by simp, parts_new (Blk.new _ _ _)⟩
theorem len_any (g n : Nat) (F : List Nat) (l : List Du) (w : World) (h : WhIs w g F n l) :
    Calls Try.prog 24 #[.pointer (some ⟨g, 0, none⟩)] w fun e w' => e = .returned (.int .i64 l.length) ∧ w = w' := by
  obtain ⟨vs, _, h⟩ := h
  have c1 : w.cell? ⟨g, 1, none⟩ = some (.int .i64 l.length) := h.blk.cell 1
  clear h
  go_enter Try.func24, Try.ntmps24
  go_wp2
  go_ret
  exact ⟨rfl, rfl⟩
theorem now_any (g n : Nat) (F : List Nat) (l : List Du) (w : World) (h : WhIs w g F n l) :
    Calls Try.prog 25 #[.pointer (some ⟨g, 0, none⟩)] w fun e w' => e = .returned (.int .i64 n) ∧ w = w' := by
  obtain ⟨vs, _, h⟩ := h
  have c0 : w.cell? ⟨g, 0, none⟩ = some (.int .i64 n) := h.blk.cell 0
  clear h
  go_enter Try.func25, Try.ntmps25
  go_wp2
  go_ret
  exact ⟨rfl, rfl⟩
theorem Parts.four {S : List Nat} {w w1 : World} {g n : Nat} {l : List Du} {vs : List Value} {v : Value} {i : Nat} (h : Parts w g n l vs) (hi : i < vs.length) (ev : vs[i] = v) (ho : Only S w w1) (hn : g ∉ S) :
    w1.cell? ⟨g, 2 + i, none⟩ = some v ∧ w1.frozen? ⟨g, 2 + i, none⟩ = false ∧ w1.cell? ⟨g, 1, none⟩ = some (.int .i64 l.length) ∧ w1.frozen? ⟨g, 1, none⟩ = false := by
  have hb := h.blk.only ho hn
  refine ⟨?_, hb.free _, hb.cell 1, hb.free _⟩
  rw [hb.cell, show 2 + i = i + 1 + 1 by omega]
  simp only [List.getElem?_toArray, List.getElem?_cons_succ]
  rw [List.getElem?_eq_getElem hi, ev]
theorem arr_upd (x y z v : Value) (vs : List Value) (i : Nat) : (((x :: y :: vs).toArray.setIfInBounds (2 + i) v).setIfInBounds 1 z) = (x :: z :: vs.set i v).toArray := by
  rw [List.setIfInBounds_toArray, List.setIfInBounds_toArray, show 2 + i = i + 1 + 1 by omega]
  rfl
theorem moves_at {a : Option Addr} {m cap hb1 n1 cap1 N : Nat} (h : some hb1 = (Value.slice a m cap).ownBlock ∨ N ≤ hb1) : Moves N (blocks (.slice a m cap)) (blocks (.slice (some ⟨hb1, 0, none⟩) n1 cap1)) := by
  intro k hk
  obtain rfl : k = hb1 := by simpa [blocks, Value.ownBlock] using hk
  rcases h with h | h
  · left
    unfold blocks
    rw [← h]
    simp
  · exact .inr h
set_option maxRecDepth 100000 in
set_option maxHeartbeats 4000000 in
theorem set_more (g n : Nat) (F : List Nat) (l : List Du) (id : Int) (t : Nat) (w : World) (h : WhIs w g F n l) (hn : n ≤ 1000000) (h1 : 1 ≤ t) (h2 : t ≤ 50) (h3 : l.length < 32) :
    Calls Try.prog 23 #[.pointer (some ⟨g, 0, none⟩), .int .i64 id, .int .i64 t] w fun e w' => e = .returned (.int .i64 0) ∧ Only F w w' ∧ ∃ F', Hid (Moves w.heap.size F F') ∧ Hid (WhIs w' g F' n (Wh.setL n l id t)) := by
  obtain ⟨vs, rfl, h⟩ := h
  obtain ⟨i, hi⟩ : ∃ i, i = (n + t) % 16 := ⟨_, rfl⟩
  have hi16 : i < 16 := by omega
  have hiv : i < vs.length := by rw [h.len]; exact hi16
  obtain ⟨a, cap, ev, ci⟩ := h.form i hiv
  have hown := h.own i hiv
  rw [ev] at hown
  obtain ⟨m, hm⟩ : ∃ m, m = (Wh.row n l i).length := ⟨_, rfl⟩
  have hml : m ≤ 32 := by rw [hm]; exact Nat.le_trans (Wh.row_len n l i) (by omega)
  rw [← hm] at ev ci hown
  have c0 : w.cell? ⟨g, 0, none⟩ = some (.int .i64 n) := h.blk.cell 0
  have c1 : w.cell? ⟨g, 1, none⟩ = some (.int .i64 l.length) := h.blk.cell 1
  have f1 := h.blk.free 1
  have fi := h.blk.free (2 + i)
  have hgl := h.blk.lt
  have hne : ¬ g = w.heap.size := by omega
  have hne2 : ¬ w.heap.size = g := by omega
  have HH := hid h
  have HO : Hid (w.drew.ownsRow (g + 1) 132 2 (.slice a m cap) m ((Wh.row n l i).flatMap Du.enc)) := hown
  have HE := hid ev
  have r1 : ((n : Int) + (t : Int)) % 16 = (i : Int) := by omega
  have HR1 := hid r1
  obtain ⟨q, hq⟩ : ∃ q, q = (t - 1) / 16 := ⟨_, rfl⟩
  have hq16 : q ≤ 3 := by omega
  have s1 : IntKind.i64.wrap ((t : Int) - 1) = (t : Int) - 1 := IntWalk.i64_in _ (by omega)
  have s2 : ((t : Int) - 1).tdiv 16 = (q : Int) := by rw [Int.tdiv_eq_ediv_of_nonneg (by omega)]; omega
  have s3 : IntKind.i64.wrap (q : Int) = (q : Int) := IntWalk.i64_in _ (by omega)
  have s4 : ((t : Int) - 1) / 16 = (q : Int) := by omega
  have HS := hid (And.intro s1 (And.intro s2 (And.intro s3 s4)))
  have HQ := hid hq
  have HM := hid hm
  have HI := hid hi
  have hI16 : (i : Int) < 16 := by omega
  have l63 : m + 1 ≤ 9223372036854775807 := by omega
  have lby : (m + 1) * 16 ≤ 140737488355328 := by omega
  have lbase : g + 1 ≤ w.drew.heap.size := by simp; omega
  clear h hown ev r1 s1 s2 s3 s4 hm hi hq
  go_enter Try.func23, Try.ntmps23
  go_wp2_with fail
  rw [HR1.out]
  obtain ⟨s1, s2, s3, s4⟩ := HS.out
  have HN1 : Hid (g ∉ blocks (.slice a m cap)) := fun hm => by have := owns_bd HO.out g hm; omega
  go_region_law (refine step_push_at elemS rfl (.tmp 36) (.tmp 42) rfl (g + 1) (.slice a m cap) m ((Wh.row n l i).flatMap Du.enc) (Du.enc ⟨id, q⟩) (by simp [Act.eval]) HO.out rfl (by simp [Act.eval]) rfl (by simp [Du.enc, Value.oneCell']) l63 lby lbase ?_; intro hb1 cap1 w1 hown1 honly1 hat1; obtain ⟨k1, k2, k3, k4⟩ := HH.out.four hiv HE.out ((Only.refl _ w).drew.trans honly1) HN1.out)
  all_goals
    have HF1 := hid hown1
    have HF2 := hid honly1
    have HF3 := hid hat1
    clear hown1 honly1 hat1
    go_wp2_with fail
    go_ret
    have he : Wh.setE l t = 0 := by unfold Wh.setE; rw [if_neg (by omega), if_neg (by omega)]
    have hlen : (Wh.setL n l id t).length = l.length + 1 := by unfold Wh.setL; rw [if_pos he]; simp
    have hrow := Wh.row_set (n := n) he id HR1.out
    have hO : Only (g :: blocks vs[i]) w _ := ((((Only.refl _ w).drew.trans (HF2.out.mono (S' := g :: blocks vs[i]) (fun k hk => by rw [HE.out]; exact List.mem_cons_of_mem _ hk))).setCell (p := ⟨g, 2 + i, none⟩) (by simp) (.slice (some ⟨hb1, 0, none⟩) (m + 1) cap1)).setCell (p := ⟨g, 1, none⟩) (by simp) (.int .i64 (l.length + 1)))
    refine ⟨rfl, hO.mono (fun k hk => ?_), ?_⟩
    · rcases List.mem_cons.1 hk with rfl | hk
      · simp
      · exact List.mem_cons_of_mem _ (mem_blocks.2 ⟨i, hiv, hk⟩)
    · refine (fun ⟨F', _, h2, h3⟩ => ⟨F', h2, h3⟩ : _ → _) (HH.out.upd i hiv (.slice (some ⟨hb1, 0, none⟩) (m + 1) cap1) ?_ (Wh.inv_set HH.out.inv id t) (fun j _ hj => Wh.row_other (by have := HR1.out; omega)) ?_ hO (by rw [HE.out]; exact moves_at HF3.out))
      · have hB := ((HH.out.blk.drew.only HF2.out HN1.out).set (2 + i) (.slice (some ⟨hb1, 0, none⟩) (m + 1) cap1)).set 1 (.int .i64 (l.length + 1))
        rw [arr_upd] at hB
        rw [hlen]
        exact hB
      · rw [hrow, List.flatMap_append, List.length_append, ← HM.out, s4]
        refine owns_keep (S := [g]) ?_ (((Only.refl _ _).setCell (p := ⟨g, 2 + i, none⟩) (by simp) _).setCell (p := ⟨g, 1, none⟩) (by simp) _) ?_
        · simpa using HF1.out
        · intro k hk hg
          have := owns_bd HF1.out k hk
          simp at hg
          omega
end C22
end Go.Proofs.Ythmopkaecbebpaa
