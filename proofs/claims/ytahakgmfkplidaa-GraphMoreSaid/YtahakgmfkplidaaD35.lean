/- Walks of layer 34 (prog): the shapes; no condition. -/
import Derived.Test.YtahakgmfkplidaaC35
import Derived.Deep.Cut
import Derived.Deep.MidRow
namespace Go.Proofs.Ytahakgmfkplidaa
open Go.RowKit Go.Peri
namespace C35
open C11 (pathOk)
theorem wp_genG {P : Program} {c : Code} {Q : Exit → Act → World → Prop} {a : Act} {w : World} (h : ∀ w2, w2 = w → c.wp P Q a w2) : c.wp P Q a w := h w rfl
set_option maxRecDepth 100000 in
set_option maxHeartbeats 4000000 in
theorem shapes_any (W : World) : Calls Try.prog 56 #[] W fun e w' => e = .returned (.agg allSh) ∧ Below W.heap.size W w' := by
  go_enter Try.func56, Try.ntmps56
  go_upto_region 1 with fail
  refine wp_genG ?_
  intro w1 hw1
  have hb1 : Below W.heap.size W w1 := by rw [hw1]; go_grown
  obtain ⟨Z, hk, hz⟩ : ∃ Z, Blk w1 W.heap.size Z 79 ∧ Z.size = 28 := by rw [hw1]; exact ⟨_, Blk.new _ _ _, rfl⟩
  clear hw1
  have hth : w1.there W.heap.size 0 allSh.toList.length := by
    intro j hj
    have hj2 : j < 28 := hj
    rw [Nat.zero_add]
    exact ⟨by rw [hk.cell, Array.getElem?_eq_getElem (by omega)]; rfl, hk.free _⟩
  have hr := World.rangeAt_setCells_same w1 W.heap.size 0 allSh.toList hth
  obtain ⟨cs2, hb2, hc2⟩ := Blk.setCells (w := w1) (cs := Z) (t := 79) allSh.toList 0 hk
  have he : cs2 = allSh := by
    apply Array.ext_getElem?
    intro i
    by_cases hi : i < 28
    · have hi2 : i < allSh.size := hi
      have h1 := hr i (allSh[i]'hi2) (by rw [Array.getElem?_toList]; exact Array.getElem?_eq_getElem hi2)
      rw [Nat.zero_add, hb2.cell] at h1
      exact h1.trans (Array.getElem?_eq_getElem hi2).symm
    · rw [Array.getElem?_eq_none (by omega), Array.getElem?_eq_none (by show 28 ≤ i; omega)]
  rw [he] at hb2
  have HO : Hid (Below W.heap.size W (w1.setCells W.heap.size 0 allSh.toList)) := hid (hb1.trans ((Only.setCells (S := [W.heap.size]) (by simp) _ _ (Only.refl _ _)).below hb1.size (fun b hb => by simp at hb; omega)))
  have HLD := hid hb2
  have HTH := hid hth
  clear hr hth hk hz hb1 hb2 hc2 he
  refine wp_region_lit ?_
  iterate 8
    (refine wpList_plain rfl (fun K hK => ?_)
     go_simp
     refine hK _ _ ?_
     clear hK K
     try simp only [Act.put, List.setIfInBounds_toArray, List.set_cons_zero, List.set_cons_succ])
  refine wpList_store_mid rfl 79 (.tmp 0) (.tmp 8) rfl W.heap.size 0 allSh rfl rfl HTH.out (by kernel_rfl) (by kernel_rfl) ?_
  refine wpList_nil ?_
  clear HTH
  obtain ⟨wf, hwf⟩ : ∃ z, z = w1.setCells W.heap.size 0 allSh.toList := ⟨_, rfl⟩
  rw [← hwf] at HLD HO ⊢
  clear hwf
  go_wp2_with fail
  exact bodyPost_ret (results_cell_row Try.results56 _ wf W.heap.size 79 allSh _ _ rfl HLD.out Try.underlying79 rfl (by kernel_rfl)) rfl ⟨rfl, HO.out⟩
theorem ix1 (w : World) : (Instr.index 79 (.agg allSh) (.int .i64 0)).run Try.prog w = .ok (.agg #[.string ⟨#[115, 97, 121]⟩, .int .i64 1, .int .i64 0, .int .i64 0]) w := by kernel_rfl
theorem ix2 (w : World) : (Instr.index 79 (.agg allSh) (.int .i64 1)).run Try.prog w = .ok (.agg #[.string ⟨#[103, 101, 116]⟩, .int .i64 2, .int .i64 0, .int .i64 0]) w := by kernel_rfl
theorem ix3 (w : World) : (Instr.index 79 (.agg allSh) (.int .i64 2)).run Try.prog w = .ok (.agg #[.string ⟨#[112, 117, 116]⟩, .int .i64 2, .int .i64 1, .int .i64 0]) w := by kernel_rfl
theorem ix4 (w : World) : (Instr.index 79 (.agg allSh) (.int .i64 3)).run Try.prog w = .ok (.agg #[.string ⟨#[104, 101, 97, 100]⟩, .int .i64 2, .int .i64 0, .int .i64 0]) w := by kernel_rfl
theorem ix5 (w : World) : (Instr.index 79 (.agg allSh) (.int .i64 4)).run Try.prog w = .ok (.agg #[.string ⟨#[98, 111, 100, 121]⟩, .int .i64 0, .int .i64 0, .int .i64 0]) w := by kernel_rfl
theorem ix6 (w : World) : (Instr.index 79 (.agg allSh) (.int .i64 5)).run Try.prog w = .ok (.agg #[.string ⟨#[99, 97, 108, 108]⟩, .int .i64 2, .int .i64 3, .int .i64 0]) w := by kernel_rfl
theorem ix7 (w : World) : (Instr.index 79 (.agg allSh) (.int .i64 6)).run Try.prog w = .ok (.agg #[.string ⟨#[115, 116, 97, 116, 117, 115]⟩, .int .i64 0, .int .i64 0, .int .i64 4]) w := by kernel_rfl
set_option maxRecDepth 100000 in
set_option maxHeartbeats 4000000 in
theorem of_any (k : Int) (W : World) : Calls Try.prog 51 #[.int .i64 k] W fun e w' => e = .returned (.tuple #[.agg #[.string (shW k), .int .i64 (shA k), .int .i64 (shB k), .int .i64 (shN k)], .bool (shOk k)]) ∧ Below W.heap.size W w' := by
  have HS := hid (fun w => shapes_any w)
  by_cases h1 : k < 1
  · have e1 : shW k = ByteArray.empty := by unfold shW; rw [if_neg (by omega), if_neg (by omega), if_neg (by omega), if_neg (by omega), if_neg (by omega), if_neg (by omega), if_neg (by omega)]
    have e2 : shA k = 0 := by unfold shA; rw [if_neg (by omega), if_neg (by omega)]
    have e3 : shB k = 0 := by unfold shB; rw [if_neg (by omega), if_neg (by omega)]
    have e4 : shN k = 0 := by unfold shN; rw [if_neg (by omega)]
    have e5 : shOk k = false := decide_eq_false (by omega)
    rw [e1, e2, e3, e4, e5]
    clear e1 e2 e3 e4 e5
    go_enter Try.func51, Try.ntmps51
    go_wp2_with fail
    refine bodyPost_ret (by simp [results, Try.results51, go_sem]; try rfl) rfl ?_
    exact ⟨rfl, by go_grown⟩
  by_cases h7 : 7 < k
  · have e1 : shW k = ByteArray.empty := by unfold shW; rw [if_neg (by omega), if_neg (by omega), if_neg (by omega), if_neg (by omega), if_neg (by omega), if_neg (by omega), if_neg (by omega)]
    have e2 : shA k = 0 := by unfold shA; rw [if_neg (by omega), if_neg (by omega)]
    have e3 : shB k = 0 := by unfold shB; rw [if_neg (by omega), if_neg (by omega)]
    have e4 : shN k = 0 := by unfold shN; rw [if_neg (by omega)]
    have e5 : shOk k = false := decide_eq_false (by omega)
    rw [e1, e2, e3, e4, e5]
    clear e1 e2 e3 e4 e5
    go_enter Try.func51, Try.ntmps51
    go_wp2_with fail
    refine bodyPost_ret (by simp [results, Try.results51, go_sem]; try rfl) rfl ?_
    exact ⟨rfl, by go_grown⟩
  obtain rfl | rfl | rfl | rfl | rfl | rfl | rfl : k = 1 ∨ k = 2 ∨ k = 3 ∨ k = 4 ∨ k = 5 ∨ k = 6 ∨ k = 7 := by omega
  all_goals
    clear h1 h7
    have q1 := ix1
    have q2 := ix2
    have q3 := ix3
    have q4 := ix4
    have q5 := ix5
    have q6 := ix6
    have q7 := ix7
    unfold allSh at q1 q2 q3 q4 q5 q6 q7
    go_enter Try.func51, Try.ntmps51
    go_wp2_with fail
    refine (HS.out _).mono ?_
    rintro e w2 ⟨rfl, hb2⟩
    have hk2 : Blk w2 W.heap.size #[.string ByteArray.empty, .int .i64 0, .int .i64 0, .int .i64 0] 73 := (Blk.new W _ _).later hb2
    have HB := hid ((show Below W.heap.size W _ from (Below.refl _ W).alloc (Nat.le_refl _) _).trans (hb2.mono (by simp)))
    have z0 : w2.cell? ⟨W.heap.size, 0, none⟩ = some (.string ByteArray.empty) := hk2.cell 0
    have z1 : w2.cell? ⟨W.heap.size, 1, none⟩ = some (.int .i64 0) := hk2.cell 1
    have z2 : w2.cell? ⟨W.heap.size, 2, none⟩ = some (.int .i64 0) := hk2.cell 2
    have z3 : w2.cell? ⟨W.heap.size, 3, none⟩ = some (.int .i64 0) := hk2.cell 3
    have zf : ∀ i, w2.frozen? ⟨W.heap.size, i, none⟩ = false := hk2.free
    clear hb2 hk2
    unfold allSh
    go_wp2_with fail
    refine bodyPost_ret (by simp [results, Try.results51, go_sem, z0, z1, z2, z3]; try rfl) rfl ?_
    refine ⟨rfl, HB.out.trans (Only.below (S := [W.heap.size]) ?_ HB.out.size (fun b hb => by simp at hb; omega))⟩
    iterate 4 (refine Only.setCell ?_ (by simp) _)
    exact Only.refl _ _
end C35
end Go.Proofs.Ytahakgmfkplidaa
