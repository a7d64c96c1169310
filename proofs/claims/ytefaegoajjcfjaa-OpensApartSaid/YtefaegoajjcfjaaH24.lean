/- Walks of layer 24 (opens): one less; no condition. -/
import Derived.Test.YtefaegoajjcfjaaQ24
namespace Go.Proofs.Ytefaegoajjcfjaa
open Go.RowKit Go.Peri
namespace C24

set_option maxRecDepth 100000 in
set_option maxHeartbeats 4000000 in
theorem finish_any {p : Nat → Prop} (v : Value) (l : List Opn) (no st ki now : Int) (W : World) (h : RowsOf p Opn.enc 12 W v l) (hp : ∀ b, p b → b < W.heap.size) (hl : l.length ≤ 100000) (r : List Opn × Sp × Int) (hr : finR l no st ki now = r) :
    Calls Try.prog 60 #[v, .int .i64 no, .int .i64 st, .int .i64 ki, .int .i64 now] W (Ret (NewQ W r.1 (fun u => .tuple #[u, spv r.2.1, .int .i64 r.2.2]))) := by
  have HAT := hid (fun r hr W' hb => at_any v l no r W' (h.below (B := W.heap.size) hb hp) (fun b hb' => Nat.lt_of_lt_of_le (hp b hb') (hb.size)) (by omega) hr)
  have HV := hid h
  have HP := hid hp
  have HR := hid hr
  by_cases hx : ix l no < l.length
  · have e : Hid (finR l no st ki now = (l.take (ix l no) ++ l.drop (ix l no + 1), { l[ix l no].sp with status := st, kids := ki, stop := max now l[ix l no].sp.start }, 0)) := dif_pos hx
    have HAT2 := hid (HAT.out _ (atR_in hx))
    obtain ⟨a, cap, rfl, hlc, hcm, _, hcell⟩ := h
    obtain ⟨b, off, rfl, hpb, hc⟩ := hcell.resolve_left (by intro e; rw [e] at hx; simp at hx)
    have hbl := hp b hpb
    unfold maxLen at hcm
    obtain ⟨k, hk⟩ : ∃ k, k = ix l no := ⟨_, rfl⟩
    have hc' := fun j u hu => hc (ix l no) hx j u hu
    rw [← hk] at hx HAT2
    simp only [← hk] at hc' e
    generalize l[k] = y at hc' e
    have HCELL := hid hc'
    have HT := hid (HV.out.take k (by omega))
    have HDL := hid (HV.out.drop (k + 1) (by omega))
    have k1 : (0 : Int) ≤ (k : Int) := by omega
    have k2 : (k : Int) ≤ (cap : Int) := by omega
    have k3 : (k : Int) + 1 ≤ (l.length : Int) := by omega
    have k4 : (k : Int) + 1 ≤ (cap : Int) := by omega
    have k6 : (0 : Int) ≤ (k : Int) + 1 := by omega
    have k7 : IntKind.i64.wrap ((k : Int) + 1) = (k : Int) + 1 := IntWalk.i64_in _ (by omega)
    have k5 : (l.length : Int) ≤ (cap : Int) := by omega
    clear hc hc' hcell hp hk HAT hr
    by_cases hmx : now < y.sp.start
    · by_cases hck : cap = k + 1
      · subst hck
        have kk1 : (k : Int) ≤ (k : Int) + 1 := by omega
        have kk2 : (k : Int) + 1 ≤ (k : Int) + 1 := by omega
        have kk3 : (l.length : Int) ≤ (k : Int) + 1 := by omega
        have HD : Hid (∀ w, RowsOf p Opn.enc 12 w (.slice (some ⟨b, off, none⟩) 0 0) (l.drop (k + 1))) := fun w => by have := RowsOf.dropEnd p Opn.enc 12 w ⟨b, off, none⟩ l (k + 1) (by omega); rwa [show l.length - (k + 1) = 0 by omega] at this
        have HMX : Hid (max now y.sp.start = y.sp.start) := Int.max_eq_right (by omega)
        go_enter Try.func60, Try.ntmps60
        go_wp2_with fail
        refine (HAT2.out _ ((Below.refl _ W).alloc (Nat.le_refl _) _)).mono ?_
        rintro e1 w1 ⟨rfl, hb1⟩
        have HZ : Hid (Blk w1 W.heap.size #[.int .u64 0, .int .u64 0, .int .u64 0, .int .u64 0, .string ⟨#[]⟩, .int .i64 0, .int .i64 0, .int .i64 0, .bool false, .int .i64 0, .int .i64 0] 79) := (Blk.new W _ _).later hb1
        have HB1 : Hid (Below W.heap.size W w1) := ((Below.refl _ W).alloc (Nat.le_refl _) _).trans (hb1.mono (by simp))
        obtain ⟨c0, c1, c2, c3, c4, c5, c6, c7, c8, c9, c10, c11⟩ := opn_cells (fun j u hu => (HB1.out.cell (p := ⟨b, off + k * 12 + j, none⟩) hbl).trans (HCELL.out j u hu))
        have hg : W.heap.size < w1.heap.size := by have := hb1.size; simp at this; omega
        have hg' : W.heap.size ≤ w1.heap.size := by omega
        have hne2 : ¬ w1.heap.size = W.heap.size := by omega
        have hne3 : ¬ W.heap.size = w1.heap.size := by omega
        have hne : b ≠ W.heap.size := by omega
        have HCT : Hid (∀ wc : World, wc.cell? ⟨w1.heap.size + 1, 0, none⟩ = some (.slice (some ⟨b, off, none⟩) k (k + 1)) → wc.cell? ⟨w1.heap.size + 1, 1, none⟩ = some (.slice (some ⟨b, off, none⟩) 0 0) → Below W.heap.size W wc → w1.heap.size + 1 < wc.heap.size →
            Calls Try.prog 74 #[.slice (some ⟨w1.heap.size + 1, 0, none⟩) 2 2] wc (Ret (OwnQ wc (l.take k ++ l.drop (k + 1))))) := by
          intro wc q0 q1 q2 q3
          refine concat_two (p := p) (q := p) _ _ _ _ _ wc q3 q0 q1 (HT.out.below q2 HP.out) (fun b hb => Nat.lt_of_lt_of_le (HP.out b hb) q2.size) (HD.out wc) (fun b hb => Nat.lt_of_lt_of_le (HP.out b hb) q2.size) ?_ ?_
          · rw [List.length_take]; omega
          · rw [List.length_drop]; omega
        have KEEP : Hid (∀ w' : World, Below (w1.alloc (.cells #[.int .u64 y.sp.hi, .int .u64 y.sp.lo, .int .u64 y.sp.id, .int .u64 y.sp.up, .string y.sp.name, .int .i64 st, .int .i64 y.sp.seq, .int .i64 ki, .bool y.sp.shadow, .int .i64 y.sp.start, .int .i64 y.sp.start] 79)).heap.size (w1.alloc (.cells #[.int .u64 y.sp.hi, .int .u64 y.sp.lo, .int .u64 y.sp.id, .int .u64 y.sp.up, .string y.sp.name, .int .i64 st, .int .i64 y.sp.seq, .int .i64 ki, .bool y.sp.shadow, .int .i64 y.sp.start, .int .i64 y.sp.start] 79)) w' → w'.cell? ⟨w1.heap.size, 0, none⟩ = some (.int .u64 y.sp.hi) ∧ w'.cell? ⟨w1.heap.size, 1, none⟩ = some (.int .u64 y.sp.lo) ∧ w'.cell? ⟨w1.heap.size, 2, none⟩ = some (.int .u64 y.sp.id) ∧ w'.cell? ⟨w1.heap.size, 3, none⟩ = some (.int .u64 y.sp.up) ∧ w'.cell? ⟨w1.heap.size, 4, none⟩ = some (.string y.sp.name) ∧ w'.cell? ⟨w1.heap.size, 5, none⟩ = some (.int .i64 st) ∧ w'.cell? ⟨w1.heap.size, 6, none⟩ = some (.int .i64 y.sp.seq) ∧ w'.cell? ⟨w1.heap.size, 7, none⟩ = some (.int .i64 ki) ∧ w'.cell? ⟨w1.heap.size, 8, none⟩ = some (.bool y.sp.shadow) ∧ w'.cell? ⟨w1.heap.size, 9, none⟩ = some (.int .i64 y.sp.start) ∧ w'.cell? ⟨w1.heap.size, 10, none⟩ = some (.int .i64 y.sp.start)) := by
          intro w' h
          refine ⟨?_, ?_, ?_, ?_, ?_, ?_, ?_, ?_, ?_, ?_, ?_⟩
          all_goals exact (h.cell (by simp <;> omega)).trans (by simp [go_sem])
        clear hb1
        go_wp2_with fail
        go_region_held3 (fun w' => w'.cell? ⟨w1.heap.size, 0, none⟩ = some (.int .u64 y.sp.hi) ∧ w'.cell? ⟨w1.heap.size, 1, none⟩ = some (.int .u64 y.sp.lo) ∧ w'.cell? ⟨w1.heap.size, 2, none⟩ = some (.int .u64 y.sp.id) ∧ w'.cell? ⟨w1.heap.size, 3, none⟩ = some (.int .u64 y.sp.up) ∧ w'.cell? ⟨w1.heap.size, 4, none⟩ = some (.string y.sp.name) ∧ w'.cell? ⟨w1.heap.size, 5, none⟩ = some (.int .i64 st) ∧ w'.cell? ⟨w1.heap.size, 6, none⟩ = some (.int .i64 y.sp.seq) ∧ w'.cell? ⟨w1.heap.size, 7, none⟩ = some (.int .i64 ki) ∧ w'.cell? ⟨w1.heap.size, 8, none⟩ = some (.bool y.sp.shadow) ∧ w'.cell? ⟨w1.heap.size, 9, none⟩ = some (.int .i64 y.sp.start) ∧ w'.cell? ⟨w1.heap.size, 10, none⟩ = some (.int .i64 y.sp.start))
          (first
            | (go_keep; done)
            | exact KEEP.out _ ((((Below.refl _ _).alloc (Nat.le_refl _) _).drew).trans (hbel.mono (by simp))))
          ((go_at_call 74; refine (HCT.out _ (by simp [go_sem]) (by simp [go_sem]) (((HB1.out.alloc hg' _).alloc (by simp <;> omega) _).drew) (by simp)).mono ?_; rintro e2 w3 ⟨v3, rfl, hown, hbel⟩; obtain ⟨r0, r1, r2, r3, r4, r5, r6, r7, r8, r9, r10, rf⟩ := blk11 (HZ.out.below ((((Below.refl w1.heap.size w1).alloc (Nat.le_refl _) _).alloc (by simp) _).drew.trans (hbel.mono (by simp <;> omega))) hg)))
        have HO1 := hid (And.intro hown hg)
        have HB2 : Hid (Below W.heap.size W w3) := (((HB1.out.alloc hg' _).alloc (by simp <;> omega) _).drew).trans (hbel.mono (by simp <;> omega))
        have hg3 : w1.heap.size + 1 < w3.heap.size := by have := hbel.size; simp at this; omega
        clear hown hbel
        go_wp2_with fail
        refine bodyPost_ret (by simp [results, Try.results60, go_sem, r0, r1, r2, r3, r4, r5, r6, r7, r8, r9, r10]; try rfl) rfl ?_
        refine ⟨_, rfl, v3, by rw [← HR.out, e.out, HMX.out]; rfl, ?_, ?_⟩
        · iterate 11 (refine Below.setCell ?_ (by exact Nat.le_refl _) _)
          exact HB2.out
        · rw [← HR.out, e.out]
          refine RowsOf.imp (RowsOf.only (S := [W.heap.size]) (RowsOf.of_owns Opn.enc_length HO1.out.1) ?_ ?_) ?_
          · iterate 11 (refine Only.setCell ?_ (by simp) _)
            exact Only.refl _ _
          · intro b' hb'
            refine ⟨hb'.2, ?_⟩
            have := hb'.1
            simp at this ⊢
            omega
          · intro b' hb'
            have := hb'.1
            simp at this
            refine ⟨by omega, ?_⟩
            simpa using hb'.2
      · have HD := HDL
        have HMX : Hid (max now y.sp.start = y.sp.start) := Int.max_eq_right (by omega)
        go_enter Try.func60, Try.ntmps60
        go_wp2_with fail
        refine (HAT2.out _ ((Below.refl _ W).alloc (Nat.le_refl _) _)).mono ?_
        rintro e1 w1 ⟨rfl, hb1⟩
        have HZ : Hid (Blk w1 W.heap.size #[.int .u64 0, .int .u64 0, .int .u64 0, .int .u64 0, .string ⟨#[]⟩, .int .i64 0, .int .i64 0, .int .i64 0, .bool false, .int .i64 0, .int .i64 0] 79) := (Blk.new W _ _).later hb1
        have HB1 : Hid (Below W.heap.size W w1) := ((Below.refl _ W).alloc (Nat.le_refl _) _).trans (hb1.mono (by simp))
        obtain ⟨c0, c1, c2, c3, c4, c5, c6, c7, c8, c9, c10, c11⟩ := opn_cells (fun j u hu => (HB1.out.cell (p := ⟨b, off + k * 12 + j, none⟩) hbl).trans (HCELL.out j u hu))
        have hg : W.heap.size < w1.heap.size := by have := hb1.size; simp at this; omega
        have hg' : W.heap.size ≤ w1.heap.size := by omega
        have hne2 : ¬ w1.heap.size = W.heap.size := by omega
        have hne3 : ¬ W.heap.size = w1.heap.size := by omega
        have hne : b ≠ W.heap.size := by omega
        have HCT : Hid (∀ wc : World, wc.cell? ⟨w1.heap.size + 1, 0, none⟩ = some (.slice (some ⟨b, off, none⟩) k cap) → wc.cell? ⟨w1.heap.size + 1, 1, none⟩ = some (.slice (some ⟨b, off + (k + 1) * 12, none⟩) (l.length - (k + 1)) (cap - (k + 1))) → Below W.heap.size W wc → w1.heap.size + 1 < wc.heap.size →
            Calls Try.prog 74 #[.slice (some ⟨w1.heap.size + 1, 0, none⟩) 2 2] wc (Ret (OwnQ wc (l.take k ++ l.drop (k + 1))))) := by
          intro wc q0 q1 q2 q3
          refine concat_two (p := p) (q := p) _ _ _ _ _ wc q3 q0 q1 (HT.out.below q2 HP.out) (fun b hb => Nat.lt_of_lt_of_le (HP.out b hb) q2.size) (HD.out.below q2 HP.out) (fun b hb => Nat.lt_of_lt_of_le (HP.out b hb) q2.size) ?_ ?_
          · rw [List.length_take]; omega
          · rw [List.length_drop]; omega
        have KEEP : Hid (∀ w' : World, Below (w1.alloc (.cells #[.int .u64 y.sp.hi, .int .u64 y.sp.lo, .int .u64 y.sp.id, .int .u64 y.sp.up, .string y.sp.name, .int .i64 st, .int .i64 y.sp.seq, .int .i64 ki, .bool y.sp.shadow, .int .i64 y.sp.start, .int .i64 y.sp.start] 79)).heap.size (w1.alloc (.cells #[.int .u64 y.sp.hi, .int .u64 y.sp.lo, .int .u64 y.sp.id, .int .u64 y.sp.up, .string y.sp.name, .int .i64 st, .int .i64 y.sp.seq, .int .i64 ki, .bool y.sp.shadow, .int .i64 y.sp.start, .int .i64 y.sp.start] 79)) w' → w'.cell? ⟨w1.heap.size, 0, none⟩ = some (.int .u64 y.sp.hi) ∧ w'.cell? ⟨w1.heap.size, 1, none⟩ = some (.int .u64 y.sp.lo) ∧ w'.cell? ⟨w1.heap.size, 2, none⟩ = some (.int .u64 y.sp.id) ∧ w'.cell? ⟨w1.heap.size, 3, none⟩ = some (.int .u64 y.sp.up) ∧ w'.cell? ⟨w1.heap.size, 4, none⟩ = some (.string y.sp.name) ∧ w'.cell? ⟨w1.heap.size, 5, none⟩ = some (.int .i64 st) ∧ w'.cell? ⟨w1.heap.size, 6, none⟩ = some (.int .i64 y.sp.seq) ∧ w'.cell? ⟨w1.heap.size, 7, none⟩ = some (.int .i64 ki) ∧ w'.cell? ⟨w1.heap.size, 8, none⟩ = some (.bool y.sp.shadow) ∧ w'.cell? ⟨w1.heap.size, 9, none⟩ = some (.int .i64 y.sp.start) ∧ w'.cell? ⟨w1.heap.size, 10, none⟩ = some (.int .i64 y.sp.start)) := by
          intro w' h
          refine ⟨?_, ?_, ?_, ?_, ?_, ?_, ?_, ?_, ?_, ?_, ?_⟩
          all_goals exact (h.cell (by simp <;> omega)).trans (by simp [go_sem])
        clear hb1
        go_wp2_with fail
        go_region_held3 (fun w' => w'.cell? ⟨w1.heap.size, 0, none⟩ = some (.int .u64 y.sp.hi) ∧ w'.cell? ⟨w1.heap.size, 1, none⟩ = some (.int .u64 y.sp.lo) ∧ w'.cell? ⟨w1.heap.size, 2, none⟩ = some (.int .u64 y.sp.id) ∧ w'.cell? ⟨w1.heap.size, 3, none⟩ = some (.int .u64 y.sp.up) ∧ w'.cell? ⟨w1.heap.size, 4, none⟩ = some (.string y.sp.name) ∧ w'.cell? ⟨w1.heap.size, 5, none⟩ = some (.int .i64 st) ∧ w'.cell? ⟨w1.heap.size, 6, none⟩ = some (.int .i64 y.sp.seq) ∧ w'.cell? ⟨w1.heap.size, 7, none⟩ = some (.int .i64 ki) ∧ w'.cell? ⟨w1.heap.size, 8, none⟩ = some (.bool y.sp.shadow) ∧ w'.cell? ⟨w1.heap.size, 9, none⟩ = some (.int .i64 y.sp.start) ∧ w'.cell? ⟨w1.heap.size, 10, none⟩ = some (.int .i64 y.sp.start))
          (first
            | (go_keep; done)
            | exact KEEP.out _ ((((Below.refl _ _).alloc (Nat.le_refl _) _).drew).trans (hbel.mono (by simp))))
          ((go_at_call 74; refine (HCT.out _ (by simp [go_sem]) (by simp [go_sem]) (((HB1.out.alloc hg' _).alloc (by simp <;> omega) _).drew) (by simp)).mono ?_; rintro e2 w3 ⟨v3, rfl, hown, hbel⟩; obtain ⟨r0, r1, r2, r3, r4, r5, r6, r7, r8, r9, r10, rf⟩ := blk11 (HZ.out.below ((((Below.refl w1.heap.size w1).alloc (Nat.le_refl _) _).alloc (by simp) _).drew.trans (hbel.mono (by simp <;> omega))) hg)))
        have HO1 := hid (And.intro hown hg)
        have HB2 : Hid (Below W.heap.size W w3) := (((HB1.out.alloc hg' _).alloc (by simp <;> omega) _).drew).trans (hbel.mono (by simp <;> omega))
        have hg3 : w1.heap.size + 1 < w3.heap.size := by have := hbel.size; simp at this; omega
        clear hown hbel
        go_wp2_with fail
        refine bodyPost_ret (by simp [results, Try.results60, go_sem, r0, r1, r2, r3, r4, r5, r6, r7, r8, r9, r10]; try rfl) rfl ?_
        refine ⟨_, rfl, v3, by rw [← HR.out, e.out, HMX.out]; rfl, ?_, ?_⟩
        · iterate 11 (refine Below.setCell ?_ (by exact Nat.le_refl _) _)
          exact HB2.out
        · rw [← HR.out, e.out]
          refine RowsOf.imp (RowsOf.only (S := [W.heap.size]) (RowsOf.of_owns Opn.enc_length HO1.out.1) ?_ ?_) ?_
          · iterate 11 (refine Only.setCell ?_ (by simp) _)
            exact Only.refl _ _
          · intro b' hb'
            refine ⟨hb'.2, ?_⟩
            have := hb'.1
            simp at this ⊢
            omega
          · intro b' hb'
            have := hb'.1
            simp at this
            refine ⟨by omega, ?_⟩
            simpa using hb'.2
    · by_cases hck : cap = k + 1
      · subst hck
        have kk1 : (k : Int) ≤ (k : Int) + 1 := by omega
        have kk2 : (k : Int) + 1 ≤ (k : Int) + 1 := by omega
        have kk3 : (l.length : Int) ≤ (k : Int) + 1 := by omega
        have HD : Hid (∀ w, RowsOf p Opn.enc 12 w (.slice (some ⟨b, off, none⟩) 0 0) (l.drop (k + 1))) := fun w => by have := RowsOf.dropEnd p Opn.enc 12 w ⟨b, off, none⟩ l (k + 1) (by omega); rwa [show l.length - (k + 1) = 0 by omega] at this
        have HMX : Hid (max now y.sp.start = now) := Int.max_eq_left (by omega)
        go_enter Try.func60, Try.ntmps60
        go_wp2_with fail
        refine (HAT2.out _ ((Below.refl _ W).alloc (Nat.le_refl _) _)).mono ?_
        rintro e1 w1 ⟨rfl, hb1⟩
        have HZ : Hid (Blk w1 W.heap.size #[.int .u64 0, .int .u64 0, .int .u64 0, .int .u64 0, .string ⟨#[]⟩, .int .i64 0, .int .i64 0, .int .i64 0, .bool false, .int .i64 0, .int .i64 0] 79) := (Blk.new W _ _).later hb1
        have HB1 : Hid (Below W.heap.size W w1) := ((Below.refl _ W).alloc (Nat.le_refl _) _).trans (hb1.mono (by simp))
        obtain ⟨c0, c1, c2, c3, c4, c5, c6, c7, c8, c9, c10, c11⟩ := opn_cells (fun j u hu => (HB1.out.cell (p := ⟨b, off + k * 12 + j, none⟩) hbl).trans (HCELL.out j u hu))
        have hg : W.heap.size < w1.heap.size := by have := hb1.size; simp at this; omega
        have hg' : W.heap.size ≤ w1.heap.size := by omega
        have hne2 : ¬ w1.heap.size = W.heap.size := by omega
        have hne3 : ¬ W.heap.size = w1.heap.size := by omega
        have hne : b ≠ W.heap.size := by omega
        have HCT : Hid (∀ wc : World, wc.cell? ⟨w1.heap.size + 1, 0, none⟩ = some (.slice (some ⟨b, off, none⟩) k (k + 1)) → wc.cell? ⟨w1.heap.size + 1, 1, none⟩ = some (.slice (some ⟨b, off, none⟩) 0 0) → Below W.heap.size W wc → w1.heap.size + 1 < wc.heap.size →
            Calls Try.prog 74 #[.slice (some ⟨w1.heap.size + 1, 0, none⟩) 2 2] wc (Ret (OwnQ wc (l.take k ++ l.drop (k + 1))))) := by
          intro wc q0 q1 q2 q3
          refine concat_two (p := p) (q := p) _ _ _ _ _ wc q3 q0 q1 (HT.out.below q2 HP.out) (fun b hb => Nat.lt_of_lt_of_le (HP.out b hb) q2.size) (HD.out wc) (fun b hb => Nat.lt_of_lt_of_le (HP.out b hb) q2.size) ?_ ?_
          · rw [List.length_take]; omega
          · rw [List.length_drop]; omega
        have KEEP : Hid (∀ w' : World, Below (w1.alloc (.cells #[.int .u64 y.sp.hi, .int .u64 y.sp.lo, .int .u64 y.sp.id, .int .u64 y.sp.up, .string y.sp.name, .int .i64 st, .int .i64 y.sp.seq, .int .i64 ki, .bool y.sp.shadow, .int .i64 y.sp.start, .int .i64 now] 79)).heap.size (w1.alloc (.cells #[.int .u64 y.sp.hi, .int .u64 y.sp.lo, .int .u64 y.sp.id, .int .u64 y.sp.up, .string y.sp.name, .int .i64 st, .int .i64 y.sp.seq, .int .i64 ki, .bool y.sp.shadow, .int .i64 y.sp.start, .int .i64 now] 79)) w' → w'.cell? ⟨w1.heap.size, 0, none⟩ = some (.int .u64 y.sp.hi) ∧ w'.cell? ⟨w1.heap.size, 1, none⟩ = some (.int .u64 y.sp.lo) ∧ w'.cell? ⟨w1.heap.size, 2, none⟩ = some (.int .u64 y.sp.id) ∧ w'.cell? ⟨w1.heap.size, 3, none⟩ = some (.int .u64 y.sp.up) ∧ w'.cell? ⟨w1.heap.size, 4, none⟩ = some (.string y.sp.name) ∧ w'.cell? ⟨w1.heap.size, 5, none⟩ = some (.int .i64 st) ∧ w'.cell? ⟨w1.heap.size, 6, none⟩ = some (.int .i64 y.sp.seq) ∧ w'.cell? ⟨w1.heap.size, 7, none⟩ = some (.int .i64 ki) ∧ w'.cell? ⟨w1.heap.size, 8, none⟩ = some (.bool y.sp.shadow) ∧ w'.cell? ⟨w1.heap.size, 9, none⟩ = some (.int .i64 y.sp.start) ∧ w'.cell? ⟨w1.heap.size, 10, none⟩ = some (.int .i64 now)) := by
          intro w' h
          refine ⟨?_, ?_, ?_, ?_, ?_, ?_, ?_, ?_, ?_, ?_, ?_⟩
          all_goals exact (h.cell (by simp <;> omega)).trans (by simp [go_sem])
        clear hb1
        go_wp2_with fail
        go_region_held3 (fun w' => w'.cell? ⟨w1.heap.size, 0, none⟩ = some (.int .u64 y.sp.hi) ∧ w'.cell? ⟨w1.heap.size, 1, none⟩ = some (.int .u64 y.sp.lo) ∧ w'.cell? ⟨w1.heap.size, 2, none⟩ = some (.int .u64 y.sp.id) ∧ w'.cell? ⟨w1.heap.size, 3, none⟩ = some (.int .u64 y.sp.up) ∧ w'.cell? ⟨w1.heap.size, 4, none⟩ = some (.string y.sp.name) ∧ w'.cell? ⟨w1.heap.size, 5, none⟩ = some (.int .i64 st) ∧ w'.cell? ⟨w1.heap.size, 6, none⟩ = some (.int .i64 y.sp.seq) ∧ w'.cell? ⟨w1.heap.size, 7, none⟩ = some (.int .i64 ki) ∧ w'.cell? ⟨w1.heap.size, 8, none⟩ = some (.bool y.sp.shadow) ∧ w'.cell? ⟨w1.heap.size, 9, none⟩ = some (.int .i64 y.sp.start) ∧ w'.cell? ⟨w1.heap.size, 10, none⟩ = some (.int .i64 now))
          (first
            | (go_keep; done)
            | exact KEEP.out _ ((((Below.refl _ _).alloc (Nat.le_refl _) _).drew).trans (hbel.mono (by simp))))
          ((go_at_call 74; refine (HCT.out _ (by simp [go_sem]) (by simp [go_sem]) (((HB1.out.alloc hg' _).alloc (by simp <;> omega) _).drew) (by simp)).mono ?_; rintro e2 w3 ⟨v3, rfl, hown, hbel⟩; obtain ⟨r0, r1, r2, r3, r4, r5, r6, r7, r8, r9, r10, rf⟩ := blk11 (HZ.out.below ((((Below.refl w1.heap.size w1).alloc (Nat.le_refl _) _).alloc (by simp) _).drew.trans (hbel.mono (by simp <;> omega))) hg)))
        have HO1 := hid (And.intro hown hg)
        have HB2 : Hid (Below W.heap.size W w3) := (((HB1.out.alloc hg' _).alloc (by simp <;> omega) _).drew).trans (hbel.mono (by simp <;> omega))
        have hg3 : w1.heap.size + 1 < w3.heap.size := by have := hbel.size; simp at this; omega
        clear hown hbel
        go_wp2_with fail
        refine bodyPost_ret (by simp [results, Try.results60, go_sem, r0, r1, r2, r3, r4, r5, r6, r7, r8, r9, r10]; try rfl) rfl ?_
        refine ⟨_, rfl, v3, by rw [← HR.out, e.out, HMX.out]; rfl, ?_, ?_⟩
        · iterate 11 (refine Below.setCell ?_ (by exact Nat.le_refl _) _)
          exact HB2.out
        · rw [← HR.out, e.out]
          refine RowsOf.imp (RowsOf.only (S := [W.heap.size]) (RowsOf.of_owns Opn.enc_length HO1.out.1) ?_ ?_) ?_
          · iterate 11 (refine Only.setCell ?_ (by simp) _)
            exact Only.refl _ _
          · intro b' hb'
            refine ⟨hb'.2, ?_⟩
            have := hb'.1
            simp at this ⊢
            omega
          · intro b' hb'
            have := hb'.1
            simp at this
            refine ⟨by omega, ?_⟩
            simpa using hb'.2
      · have HD := HDL
        have HMX : Hid (max now y.sp.start = now) := Int.max_eq_left (by omega)
        go_enter Try.func60, Try.ntmps60
        go_wp2_with fail
        refine (HAT2.out _ ((Below.refl _ W).alloc (Nat.le_refl _) _)).mono ?_
        rintro e1 w1 ⟨rfl, hb1⟩
        have HZ : Hid (Blk w1 W.heap.size #[.int .u64 0, .int .u64 0, .int .u64 0, .int .u64 0, .string ⟨#[]⟩, .int .i64 0, .int .i64 0, .int .i64 0, .bool false, .int .i64 0, .int .i64 0] 79) := (Blk.new W _ _).later hb1
        have HB1 : Hid (Below W.heap.size W w1) := ((Below.refl _ W).alloc (Nat.le_refl _) _).trans (hb1.mono (by simp))
        obtain ⟨c0, c1, c2, c3, c4, c5, c6, c7, c8, c9, c10, c11⟩ := opn_cells (fun j u hu => (HB1.out.cell (p := ⟨b, off + k * 12 + j, none⟩) hbl).trans (HCELL.out j u hu))
        have hg : W.heap.size < w1.heap.size := by have := hb1.size; simp at this; omega
        have hg' : W.heap.size ≤ w1.heap.size := by omega
        have hne2 : ¬ w1.heap.size = W.heap.size := by omega
        have hne3 : ¬ W.heap.size = w1.heap.size := by omega
        have hne : b ≠ W.heap.size := by omega
        have HCT : Hid (∀ wc : World, wc.cell? ⟨w1.heap.size + 1, 0, none⟩ = some (.slice (some ⟨b, off, none⟩) k cap) → wc.cell? ⟨w1.heap.size + 1, 1, none⟩ = some (.slice (some ⟨b, off + (k + 1) * 12, none⟩) (l.length - (k + 1)) (cap - (k + 1))) → Below W.heap.size W wc → w1.heap.size + 1 < wc.heap.size →
            Calls Try.prog 74 #[.slice (some ⟨w1.heap.size + 1, 0, none⟩) 2 2] wc (Ret (OwnQ wc (l.take k ++ l.drop (k + 1))))) := by
          intro wc q0 q1 q2 q3
          refine concat_two (p := p) (q := p) _ _ _ _ _ wc q3 q0 q1 (HT.out.below q2 HP.out) (fun b hb => Nat.lt_of_lt_of_le (HP.out b hb) q2.size) (HD.out.below q2 HP.out) (fun b hb => Nat.lt_of_lt_of_le (HP.out b hb) q2.size) ?_ ?_
          · rw [List.length_take]; omega
          · rw [List.length_drop]; omega
        have KEEP : Hid (∀ w' : World, Below (w1.alloc (.cells #[.int .u64 y.sp.hi, .int .u64 y.sp.lo, .int .u64 y.sp.id, .int .u64 y.sp.up, .string y.sp.name, .int .i64 st, .int .i64 y.sp.seq, .int .i64 ki, .bool y.sp.shadow, .int .i64 y.sp.start, .int .i64 now] 79)).heap.size (w1.alloc (.cells #[.int .u64 y.sp.hi, .int .u64 y.sp.lo, .int .u64 y.sp.id, .int .u64 y.sp.up, .string y.sp.name, .int .i64 st, .int .i64 y.sp.seq, .int .i64 ki, .bool y.sp.shadow, .int .i64 y.sp.start, .int .i64 now] 79)) w' → w'.cell? ⟨w1.heap.size, 0, none⟩ = some (.int .u64 y.sp.hi) ∧ w'.cell? ⟨w1.heap.size, 1, none⟩ = some (.int .u64 y.sp.lo) ∧ w'.cell? ⟨w1.heap.size, 2, none⟩ = some (.int .u64 y.sp.id) ∧ w'.cell? ⟨w1.heap.size, 3, none⟩ = some (.int .u64 y.sp.up) ∧ w'.cell? ⟨w1.heap.size, 4, none⟩ = some (.string y.sp.name) ∧ w'.cell? ⟨w1.heap.size, 5, none⟩ = some (.int .i64 st) ∧ w'.cell? ⟨w1.heap.size, 6, none⟩ = some (.int .i64 y.sp.seq) ∧ w'.cell? ⟨w1.heap.size, 7, none⟩ = some (.int .i64 ki) ∧ w'.cell? ⟨w1.heap.size, 8, none⟩ = some (.bool y.sp.shadow) ∧ w'.cell? ⟨w1.heap.size, 9, none⟩ = some (.int .i64 y.sp.start) ∧ w'.cell? ⟨w1.heap.size, 10, none⟩ = some (.int .i64 now)) := by
          intro w' h
          refine ⟨?_, ?_, ?_, ?_, ?_, ?_, ?_, ?_, ?_, ?_, ?_⟩
          all_goals exact (h.cell (by simp <;> omega)).trans (by simp [go_sem])
        clear hb1
        go_wp2_with fail
        go_region_held3 (fun w' => w'.cell? ⟨w1.heap.size, 0, none⟩ = some (.int .u64 y.sp.hi) ∧ w'.cell? ⟨w1.heap.size, 1, none⟩ = some (.int .u64 y.sp.lo) ∧ w'.cell? ⟨w1.heap.size, 2, none⟩ = some (.int .u64 y.sp.id) ∧ w'.cell? ⟨w1.heap.size, 3, none⟩ = some (.int .u64 y.sp.up) ∧ w'.cell? ⟨w1.heap.size, 4, none⟩ = some (.string y.sp.name) ∧ w'.cell? ⟨w1.heap.size, 5, none⟩ = some (.int .i64 st) ∧ w'.cell? ⟨w1.heap.size, 6, none⟩ = some (.int .i64 y.sp.seq) ∧ w'.cell? ⟨w1.heap.size, 7, none⟩ = some (.int .i64 ki) ∧ w'.cell? ⟨w1.heap.size, 8, none⟩ = some (.bool y.sp.shadow) ∧ w'.cell? ⟨w1.heap.size, 9, none⟩ = some (.int .i64 y.sp.start) ∧ w'.cell? ⟨w1.heap.size, 10, none⟩ = some (.int .i64 now))
          (first
            | (go_keep; done)
            | exact KEEP.out _ ((((Below.refl _ _).alloc (Nat.le_refl _) _).drew).trans (hbel.mono (by simp))))
          ((go_at_call 74; refine (HCT.out _ (by simp [go_sem]) (by simp [go_sem]) (((HB1.out.alloc hg' _).alloc (by simp <;> omega) _).drew) (by simp)).mono ?_; rintro e2 w3 ⟨v3, rfl, hown, hbel⟩; obtain ⟨r0, r1, r2, r3, r4, r5, r6, r7, r8, r9, r10, rf⟩ := blk11 (HZ.out.below ((((Below.refl w1.heap.size w1).alloc (Nat.le_refl _) _).alloc (by simp) _).drew.trans (hbel.mono (by simp <;> omega))) hg)))
        have HO1 := hid (And.intro hown hg)
        have HB2 : Hid (Below W.heap.size W w3) := (((HB1.out.alloc hg' _).alloc (by simp <;> omega) _).drew).trans (hbel.mono (by simp <;> omega))
        have hg3 : w1.heap.size + 1 < w3.heap.size := by have := hbel.size; simp at this; omega
        clear hown hbel
        go_wp2_with fail
        refine bodyPost_ret (by simp [results, Try.results60, go_sem, r0, r1, r2, r3, r4, r5, r6, r7, r8, r9, r10]; try rfl) rfl ?_
        refine ⟨_, rfl, v3, by rw [← HR.out, e.out, HMX.out]; rfl, ?_, ?_⟩
        · iterate 11 (refine Below.setCell ?_ (by exact Nat.le_refl _) _)
          exact HB2.out
        · rw [← HR.out, e.out]
          refine RowsOf.imp (RowsOf.only (S := [W.heap.size]) (RowsOf.of_owns Opn.enc_length HO1.out.1) ?_ ?_) ?_
          · iterate 11 (refine Only.setCell ?_ (by simp) _)
            exact Only.refl _ _
          · intro b' hb'
            refine ⟨hb'.2, ?_⟩
            have := hb'.1
            simp at this ⊢
            omega
          · intro b' hb'
            have := hb'.1
            simp at this
            refine ⟨by omega, ?_⟩
            simpa using hb'.2
  · have e : Hid (finR l no st ki now = ([], sp0, 9)) := dif_neg hx
    have HAT2 := hid (HAT.out _ (atR_out hx))
    clear h hp HAT hx hr
    go_enter Try.func60, Try.ntmps60
    go_wp2_with fail
    refine (HAT2.out _ ((Below.refl _ W).alloc (Nat.le_refl _) _)).mono ?_
    rintro e1 w1 ⟨rfl, hb1⟩
    obtain ⟨z0, z1, z2, z3, z4, z5, z6, z7, z8, z9, z10, zf⟩ := blk11 ((Blk.new W _ _).later hb1)
    have HB1 : Hid (Below W.heap.size W w1) := ((Below.refl _ W).alloc (Nat.le_refl _) _).trans (hb1.mono (by simp))
    have hg : W.heap.size < w1.heap.size := by have := hb1.size; simp at this; omega
    clear hb1
    go_wp2_with fail
    refine bodyPost_ret (by simp [results, Try.results60, go_sem, z0, z1, z2, z3, z4, z5, z6, z7, z8, z9, z10]; try rfl) rfl ?_
    refine ⟨_, rfl, .slice none 0 0, by rw [← HR.out, e.out]; rfl, ?_, ?_⟩
    · repeat' (refine Below.setCell ?_ ?_ _)
      all_goals (first | exact HB1.out | exact Nat.le_refl _)
    · rw [← HR.out, e.out]; exact RowsOf.nil _ _ _ _
end C24
end Go.Proofs.Ytefaegoajjcfjaa
