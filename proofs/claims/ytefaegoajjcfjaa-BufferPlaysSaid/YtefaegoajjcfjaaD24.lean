/- Walks of layer 24 (opens): the span under a number; no condition. -/
import Derived.Test.YtefaegoajjcfjaaC24
namespace Go.Proofs.Ytefaegoajjcfjaa
open Go.RowKit Go.Peri
namespace C24

theorem blk11 {w : World} {g t : Nat} {a0 a1 a2 a3 a4 a5 a6 a7 a8 a9 a10 : Value} (h : Blk w g #[a0, a1, a2, a3, a4, a5, a6, a7, a8, a9, a10] t) :
    w.cell? ⟨g, 0, none⟩ = some a0 ∧ w.cell? ⟨g, 1, none⟩ = some a1 ∧ w.cell? ⟨g, 2, none⟩ = some a2 ∧ w.cell? ⟨g, 3, none⟩ = some a3 ∧ w.cell? ⟨g, 4, none⟩ = some a4 ∧ w.cell? ⟨g, 5, none⟩ = some a5 ∧ w.cell? ⟨g, 6, none⟩ = some a6 ∧ w.cell? ⟨g, 7, none⟩ = some a7 ∧ w.cell? ⟨g, 8, none⟩ = some a8 ∧ w.cell? ⟨g, 9, none⟩ = some a9 ∧ w.cell? ⟨g, 10, none⟩ = some a10 ∧ ∀ i, w.frozen? ⟨g, i, none⟩ = false :=
  ⟨h.cell 0, h.cell 1, h.cell 2, h.cell 3, h.cell 4, h.cell 5, h.cell 6, h.cell 7, h.cell 8, h.cell 9, h.cell 10, h.free⟩
def sp0 : Sp := ⟨0, 0, 0, 0, ByteArray.empty, 0, 0, 0, false, 0, 0⟩
def findR (l : List Opn) (no : Int) : Sp × Bool := if h : ix l no < l.length then (l[ix l no].sp, true) else (sp0, false)
/-- A span's value. -/
def spv (s : Sp) : Value := .agg #[.int .u64 s.hi, .int .u64 s.lo, .int .u64 s.id, .int .u64 s.up, .string s.name, .int .i64 s.status, .int .i64 s.seq, .int .i64 s.kids, .bool s.shadow, .int .i64 s.start, .int .i64 s.stop]

set_option maxRecDepth 100000 in
theorem find_any {p : Nat → Prop} (v : Value) (l : List Opn) (no : Int) (W : World) (h : RowsOf p Opn.enc 12 W v l) (hp : ∀ b, p b → b < W.heap.size) (hl : l.length ≤ 9223372036854775807) :
    Calls Try.prog 62 #[v, .int .i64 no] W fun e w' => e = .returned (.tuple #[spv (findR l no).1, .bool (findR l no).2]) ∧ Below W.heap.size W w' := by
  have HAT := hid (fun r hr W' hb => at_any v l no r W' (h.below (B := W.heap.size) hb hp) (fun b hb' => Nat.lt_of_lt_of_le (hp b hb') (hb.size)) hl hr)
  by_cases hx : ix l no < l.length
  · have e : Hid (findR l no = (l[ix l no].sp, true)) := dif_pos hx
    have HAT2 := hid (HAT.out _ (atR_in hx))
    obtain ⟨a, cap, rfl, hlc, hcm, _, hcell⟩ := h
    obtain ⟨b, off, rfl, hpb, hc⟩ := hcell.resolve_left (by intro e; rw [e] at hx; simp at hx)
    have hbl := hp b hpb
    obtain ⟨k, hk⟩ : ∃ k, k = ix l no := ⟨_, rfl⟩
    have hc' := fun j u hu => hc (ix l no) hx j u hu
    rw [← hk] at hx HAT2
    simp only [← hk] at hc' e
    generalize l[k] = y at hc' e
    have HCELL := hid hc'
    clear hc hc' hcell hp hk HAT
    go_enter Try.func62, Try.ntmps62
    go_wp2_with fail
    refine (HAT2.out _ ((Below.refl _ W).alloc (Nat.le_refl _) _)).mono ?_
    rintro e w1 ⟨rfl, hb1⟩
    obtain ⟨z0, z1, z2, z3, z4, z5, z6, z7, z8, z9, z10, zf⟩ := blk11 ((Blk.new W _ _).later hb1)
    have HB1 : Hid (Below W.heap.size W w1) := ((Below.refl _ W).alloc (Nat.le_refl _) _).trans (hb1.mono (by simp))
    obtain ⟨c0, c1, c2, c3, c4, c5, c6, c7, c8, c9, c10, c11⟩ := opn_cells (fun j u hu => (HB1.out.cell (p := ⟨b, off + k * 12 + j, none⟩) hbl).trans (HCELL.out j u hu))
    have hg : W.heap.size < w1.heap.size := by have := hb1.size; simp at this; omega
    have hne : b ≠ W.heap.size := by omega
    clear hb1
    go_wp2_with fail
    refine bodyPost_ret (by simp [results, Try.results62, go_sem, z0, z1, z2, z3, z4, z5, z6, z7, z8, z9, z10]; try rfl) rfl ?_
    refine ⟨by rw [e.out]; rfl, ?_⟩
    repeat' (refine Below.setCell ?_ ?_ _)
    all_goals (first | exact HB1.out | exact Nat.le_refl _)
  · have e : Hid (findR l no = (sp0, false)) := dif_neg hx
    have HAT2 := hid (HAT.out _ (atR_out hx))
    clear h hp HAT hx
    go_enter Try.func62, Try.ntmps62
    go_wp2_with fail
    refine (HAT2.out _ ((Below.refl _ W).alloc (Nat.le_refl _) _)).mono ?_
    rintro e w1 ⟨rfl, hb1⟩
    obtain ⟨z0, z1, z2, z3, z4, z5, z6, z7, z8, z9, z10, zf⟩ := blk11 ((Blk.new W _ _).later hb1)
    have HB1 : Hid (Below W.heap.size W w1) := ((Below.refl _ W).alloc (Nat.le_refl _) _).trans (hb1.mono (by simp))
    have hg : W.heap.size < w1.heap.size := by have := hb1.size; simp at this; omega
    clear hb1
    go_wp2_with fail
    refine bodyPost_ret (by simp [results, Try.results62, go_sem, z0, z1, z2, z3, z4, z5, z6, z7, z8, z9, z10]; try rfl) rfl ?_
    refine ⟨by rw [e.out]; rfl, ?_⟩
    repeat' (refine Below.setCell ?_ ?_ _)
    all_goals (first | exact HB1.out | exact Nat.le_refl _)
set_option maxRecDepth 100000 in
theorem rfind_any {p : Nat → Prop} (v : Value) (l : List Opn) (no : Int) (W : World) (h : RowsOf p Opn.enc 12 W v l) (hp : ∀ b, p b → b < W.heap.size) (hl : l.length ≤ 9223372036854775807) :
    Calls Try.prog 63 #[v, .int .i64 no] W fun e w' => e = .returned (.tuple #[spv (findR l no).1, .bool (findR l no).2]) ∧ Below W.heap.size W w' := by
  have HAT := hid (fun r hr W' hb => rat_any v l no r W' (h.below (B := W.heap.size) hb hp) hl hr)
  by_cases hx : ix l no < l.length
  · have e : Hid (findR l no = (l[ix l no].sp, true)) := dif_pos hx
    have HAT2 := hid (HAT.out _ (atR_in hx))
    obtain ⟨a, cap, rfl, hlc, hcm, _, hcell⟩ := h
    obtain ⟨b, off, rfl, hpb, hc⟩ := hcell.resolve_left (by intro e; rw [e] at hx; simp at hx)
    have hbl := hp b hpb
    obtain ⟨k, hk⟩ : ∃ k, k = ix l no := ⟨_, rfl⟩
    have hc' := fun j u hu => hc (ix l no) hx j u hu
    rw [← hk] at hx HAT2
    simp only [← hk] at hc' e
    generalize l[k] = y at hc' e
    have HCELL := hid hc'
    clear hc hc' hcell hp hk HAT
    go_enter Try.func63, Try.ntmps63
    go_wp2_with fail
    refine (HAT2.out _ ((Below.refl _ W).alloc (Nat.le_refl _) _)).mono ?_
    rintro e w1 ⟨rfl, hb1⟩
    have hb1 : Below (W.alloc (.cells #[.int .u64 0, .int .u64 0, .int .u64 0, .int .u64 0, .string ⟨#[]⟩, .int .i64 0, .int .i64 0, .int .i64 0, .bool false, .int .i64 0, .int .i64 0] 79)).heap.size (W.alloc (.cells #[.int .u64 0, .int .u64 0, .int .u64 0, .int .u64 0, .string ⟨#[]⟩, .int .i64 0, .int .i64 0, .int .i64 0, .bool false, .int .i64 0, .int .i64 0] 79)) w1 := by subst hb1; exact Below.refl _ _
    obtain ⟨z0, z1, z2, z3, z4, z5, z6, z7, z8, z9, z10, zf⟩ := blk11 ((Blk.new W _ _).later hb1)
    have HB1 : Hid (Below W.heap.size W w1) := ((Below.refl _ W).alloc (Nat.le_refl _) _).trans (hb1.mono (by simp))
    obtain ⟨c0, c1, c2, c3, c4, c5, c6, c7, c8, c9, c10, c11⟩ := opn_cells (fun j u hu => (HB1.out.cell (p := ⟨b, off + k * 12 + j, none⟩) hbl).trans (HCELL.out j u hu))
    have hg : W.heap.size < w1.heap.size := by have := hb1.size; simp at this; omega
    have hne : b ≠ W.heap.size := by omega
    clear hb1
    go_wp2_with fail
    refine bodyPost_ret (by simp [results, Try.results63, go_sem, z0, z1, z2, z3, z4, z5, z6, z7, z8, z9, z10]; try rfl) rfl ?_
    refine ⟨by rw [e.out]; rfl, ?_⟩
    repeat' (refine Below.setCell ?_ ?_ _)
    all_goals (first | exact HB1.out | exact Nat.le_refl _)
  · have e : Hid (findR l no = (sp0, false)) := dif_neg hx
    have HAT2 := hid (HAT.out _ (atR_out hx))
    clear h hp HAT hx
    go_enter Try.func63, Try.ntmps63
    go_wp2_with fail
    refine (HAT2.out _ ((Below.refl _ W).alloc (Nat.le_refl _) _)).mono ?_
    rintro e w1 ⟨rfl, hb1⟩
    have hb1 : Below (W.alloc (.cells #[.int .u64 0, .int .u64 0, .int .u64 0, .int .u64 0, .string ⟨#[]⟩, .int .i64 0, .int .i64 0, .int .i64 0, .bool false, .int .i64 0, .int .i64 0] 79)).heap.size (W.alloc (.cells #[.int .u64 0, .int .u64 0, .int .u64 0, .int .u64 0, .string ⟨#[]⟩, .int .i64 0, .int .i64 0, .int .i64 0, .bool false, .int .i64 0, .int .i64 0] 79)) w1 := by subst hb1; exact Below.refl _ _
    obtain ⟨z0, z1, z2, z3, z4, z5, z6, z7, z8, z9, z10, zf⟩ := blk11 ((Blk.new W _ _).later hb1)
    have HB1 : Hid (Below W.heap.size W w1) := ((Below.refl _ W).alloc (Nat.le_refl _) _).trans (hb1.mono (by simp))
    have hg : W.heap.size < w1.heap.size := by have := hb1.size; simp at this; omega
    clear hb1
    go_wp2_with fail
    refine bodyPost_ret (by simp [results, Try.results63, go_sem, z0, z1, z2, z3, z4, z5, z6, z7, z8, z9, z10]; try rfl) rfl ?_
    refine ⟨by rw [e.out]; rfl, ?_⟩
    repeat' (refine Below.setCell ?_ ?_ _)
    all_goals (first | exact HB1.out | exact Nat.le_refl _)
end C24
end Go.Proofs.Ytefaegoajjcfjaa
