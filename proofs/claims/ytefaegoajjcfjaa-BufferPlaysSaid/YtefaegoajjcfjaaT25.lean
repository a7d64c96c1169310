/- Walks of layer 25 (buffer): the law that what waits, and what is taken, is what the document says; no condition. -/
import Derived.Test.YtefaegoajjcfjaaS25
namespace Go.Proofs.Ytefaegoajjcfjaa
open Go.RowKit Go.Peri
namespace C25

set_option maxRecDepth 100000 in
set_option maxHeartbeats 1000000 in
theorem plays_good (room : Int) (v : Value) (l : List Mv) (W : World) (h : RowsOf (· < W.heap.size) Mv.enc 12 W v l) (hl : l.length ≤ 300) :
    Calls Try.prog 12 #[.int .i64 room, v] W fun e w' => e = .returned (.bool true) ∧ Below W.heap.size W w' := by
  obtain ⟨a, cap, rfl, hlc, hcm, _, hcell⟩ := h
  have HC := hid hcell
  have h1' : ¬ (300 : Int) < (l.length : Int) := by omega
  clear hcell hcm
  obtain ⟨rm, hrm⟩ : ∃ r, r = roomR room := ⟨_, rfl⟩
  have HRM := hid hrm
  have HR64 : Hid (rm ≤ 64) := by show _ ≤ _; rw [hrm]; unfold roomR; omega
  clear hrm
  go_enter Try.func12, Try.ntmps12
  go_wp2_with fail
  refine (new_any room _).mono ?_
  rintro e w1 ⟨rfl, hb1, hs1, hB1⟩
  have HB1 := hid hb1
  have HBuf1 : Hid (BufIs w1 W.heap.size none rm [] 0) := by rw [HRM.out]; exact hB1
  clear hb1 hB1
  go_wp2_with fail
  refine (ref_new room rm _ HRM.out.symm).mono ?_
  rintro e w2 ⟨rfl, hb2⟩
  have HB2 := hid (HB1.out.trans (hb2.mono HB1.out.size))
  have HBuf2 := hid (HBuf1.out.later hb2)
  have hs2 := hb2.size
  have HQ0 : Hid (PlayQ (W.heap.size + 1) W.heap.size w2.heap.size rm (w2.alloc (.cells #[.int .i64 rm, .slice none 0 0, .int .i64 0] 73))) := by
    refine ⟨⟨none, [], 0, none, 0, HBuf2.out.later (by go_grown), Blk.new _ _ _, RowsOf.nil _ _ _ _, by simp [own]; omega⟩, by omega⟩
  clear hb2
  obtain ⟨gx, hgx⟩ : ∃ g, g = w2.heap.size := ⟨_, rfl⟩
  rw [← hgx] at HQ0
  have HGX := hid hgx
  clear hgx
  go_wp2_with fail
  rw [← HGX.out]
  go_loopw [7] (fun i wr => ∃ (k : Nat), k ≤ l.length ∧ i = .int .i64 k ∧ Below W.heap.size W wr ∧ PlayQ (W.heap.size + 1) W.heap.size gx rm wr) (fun i _ => l.length - (intOf i).toNat)
  case atStart => exact ⟨0, Nat.zero_le _, rfl, HB2.out.alloc (by omega) _, HQ0.out⟩
  case round =>
    obtain ⟨k, hk, rfl, hb, hq⟩ := hrel
    have HB := hid hb
    have HQ := hid hq
    clear hb hq HQ0
    by_cases hlt : k < l.length
    · obtain ⟨b, off, rfl, hpb, hc⟩ := HC.out.resolve_left (by intro e; rw [e] at hlt; simp at hlt)
      obtain ⟨c0, c1, c2, c3, c4, c5, c6, c7, c8, c9, c10, c11⟩ := Mv.cells (fun j u hu => (HB.out.cell (p := ⟨b, off + k * 12 + j, none⟩) hpb).trans (hc k hlt j u hu))
      obtain ⟨⟨h, wait, lost, ax, capx, hbuf, hblk, hrows, hgo⟩, hgB⟩ := HQ.out
      have HBUF := hid hbuf
      have HX := hid hblk
      have HRW := hid hrows
      have x0 : wr.cell? ⟨gx, 0, none⟩ = some (.int .i64 rm) := hblk.cell 0
      have x1 : wr.cell? ⟨gx, 1, none⟩ = some (.slice ax wait.length capx) := hblk.cell 1
      have x2 : wr.cell? ⟨gx, 2, none⟩ = some (.int .i64 lost) := hblk.cell 2
      clear hbuf hblk hrows hc HQ
      generalize l[k] = y at c0 c1 c2 c3 c4 c5 c6 c7 c8 c9 c10 c11
      have hblt : b < wr.heap.size := Nat.lt_of_lt_of_le hpb HB.out.size
      have hgxlt : gx < wr.heap.size := HX.out.lt
      have hw64 : wait.length ≤ 64 := by obtain ⟨_, _, _, _, q, q2, _⟩ := HBUF.out; omega
      by_cases ht : -1 < y.take
      · obtain ⟨j, hj⟩ : ∃ j, takeN y.take wait = j := ⟨_, rfl⟩
        have HJ := hid hj
        obtain ⟨l1, hl1⟩ : ∃ x, wait.drop j = x := ⟨_, rfl⟩
        obtain ⟨l2, hl2⟩ : ∃ x, wait.take j = x := ⟨_, rfl⟩
        have HL1 := hid hl1
        have HL2 := hid hl2
        have hll1 : l1.length ≤ 64 := by rw [← hl1, List.length_drop]; omega
        have hll2 : l2.length ≤ 64 := by rw [← hl2, List.length_take]; omega
        have KEEP : Hid (∀ w', Below wr.heap.size wr w' → w'.cell? ⟨gx, 0, none⟩ = some (.int .i64 rm) ∧ w'.cell? ⟨gx, 1, none⟩ = some (.slice ax wait.length capx) ∧ w'.cell? ⟨gx, 2, none⟩ = some (.int .i64 lost) ∧ w'.cell? ⟨b, off + k * 12 + 11, none⟩ = some (.int .i64 y.take)) :=
          fun w' hw => ⟨(hw.cell hgxlt).trans x0, (hw.cell hgxlt).trans x1, (hw.cell hgxlt).trans x2, (hw.cell hblt).trans c11⟩
        have HRT : Hid (∀ w', Below wr.heap.size wr w' → Calls Try.prog 49 #[.agg #[.int .i64 rm, .slice ax wait.length capx, .int .i64 lost], .int .i64 y.take] w' (RTake2 (fun b => W.heap.size + 1 ≤ b ∧ b < wr.heap.size ∧ ¬ b ∈ own W.heap.size h ∧ b ≠ gx) rm l1 l2 lost w')) :=
          fun w' hw => ref_take2 rm lost y.take _ wait l1 l2 j w' (HRW.out.below hw (fun b hb => hb.2.1)) (fun b hb => Nat.lt_of_lt_of_le hb.2.1 hw.size) (by omega) HJ.out HL1.out HL2.out
        clear hj hl1 hl2 c0 c1 c2 c3 c4 c5 c6 c7 c8 c9 c10
        go_wp2_with fail
        go_region_held3 (fun w' => w'.cell? ⟨gx, 0, none⟩ = some (.int .i64 rm) ∧ w'.cell? ⟨gx, 1, none⟩ = some (.slice ax wait.length capx) ∧ w'.cell? ⟨gx, 2, none⟩ = some (.int .i64 lost) ∧ w'.cell? ⟨b, off + k * 12 + 11, none⟩ = some (.int .i64 y.take))
          (first
            | exact KEEP.out _ hbw3
            | exact KEEP.out _ (hbw3.alloc hbw3.size _)
            | exact KEEP.out _ (Below.refl _ _).drew
            | exact KEEP.out _ ((Below.refl _ _).alloc (Nat.le_refl _) _).drew
            | exact KEEP.out _ (((hbw3.setCell (by simp) _).setCell (by simp) _).setCell (by simp) _)
            | go_keep)
          ((first
            | (go_at_call 49; refine (HRT.out _ (Below.refl _ _).drew).mono ?_; rintro e3 w3 ⟨a3, cap3, a4, cap4, rfl, hbel3, hr3, hr4⟩; have hbw3 : Below wr.heap.size wr w3 := drewL hbel3)
            | (go_at_call 49; refine (HRT.out _ ((Below.refl _ _).alloc (Nat.le_refl _) _).drew).mono ?_; rintro e3 w3 ⟨a3, cap3, a4, cap4, rfl, hbel3, hr3, hr4⟩; have hbw3 : Below wr.heap.size wr w3 := ((Below.refl _ _).alloc (Nat.le_refl _) _).drew.trans (hbel3.mono (by simp)); have hk3 : Blk w3 wr.heap.size #[.int .i64 0, .slice none 0 0, .int .i64 0] 73 := (Blk.new wr _ 73).drew.later hbel3; have y0 : w3.cell? ⟨wr.heap.size, 0, none⟩ = some (.int .i64 0) := hk3.cell 0; have y1 : w3.cell? ⟨wr.heap.size, 1, none⟩ = some (.slice none 0 0) := hk3.cell 1; have y2 : w3.cell? ⟨wr.heap.size, 2, none⟩ = some (.int .i64 0) := hk3.cell 2; have yf0 := hk3.free 0; have yf1 := hk3.free 1; have yf2 := hk3.free 2; have HK3 := hid hk3; clear hk3)))
        · obtain ⟨w4, hw4⟩ : ∃ w4, w4 = w3.alloc (.cells #[.int .i64 rm, .slice a3 l1.length cap3, .int .i64 lost] 73) := ⟨_, rfl⟩
          obtain ⟨gy, hgy⟩ : ∃ g, g = w3.heap.size := ⟨_, rfl⟩
          rw [← hw4, ← hgy]
          have HY : Hid (Blk w4 gy #[.int .i64 rm, .slice a3 l1.length cap3, .int .i64 lost] 73) := hid (by rw [hw4, hgy]; exact Blk.new _ _ _)
          have HB4 : Hid (Below wr.heap.size wr w4) := hid (by rw [hw4]; exact hbw3.alloc hbw3.size _)
          have HB34 : Hid (Only [gy] w3 w4) := hid (by rw [hw4]; exact (Only.refl _ _).alloc _)
          have hgyl : wr.heap.size ≤ gy := by rw [hgy]; exact hbw3.size
          clear hw4 hgy
          have HX4 : Hid (Blk w4 gx #[.int .i64 rm, .slice ax wait.length capx, .int .i64 lost] 73) := HX.out.later HB4.out
          have v0 : w4.cell? ⟨gy, 0, none⟩ = some (.int .i64 rm) := HY.out.cell 0
          have v1 : w4.cell? ⟨gy, 1, none⟩ = some (.slice a3 l1.length cap3) := HY.out.cell 1
          have v2 : w4.cell? ⟨gy, 2, none⟩ = some (.int .i64 lost) := HY.out.cell 2
          have z0 : w4.cell? ⟨gx, 0, none⟩ = some (.int .i64 rm) := HX4.out.cell 0
          have z1 : w4.cell? ⟨gx, 1, none⟩ = some (.slice ax wait.length capx) := HX4.out.cell 1
          have z2 : w4.cell? ⟨gx, 2, none⟩ = some (.int .i64 lost) := HX4.out.cell 2
          have zf0 := HX4.out.free 0
          have zf1 := HX4.out.free 1
          have zf2 := HX4.out.free 2
          have hs4 := HB4.out.size
          have hw3s : w3.heap.size ≤ w4.heap.size := HB34.out.size
          have hw3r : wr.heap.size ≤ w3.heap.size := hbw3.size
          have hne1 : ¬ gy = gx := by omega
          have hne2 : ¬ gx = gy := by omega
          have HX5 : Hid (Blk (((w4.setCell ⟨gx, 0, none⟩ (.int .i64 rm)).setCell ⟨gx, 1, none⟩ (.slice a3 l1.length cap3)).setCell ⟨gx, 2, none⟩ (.int .i64 lost)) gx #[.int .i64 rm, .slice a3 l1.length cap3, .int .i64 lost] 73) := hid (by simpa using ((HX4.out.set 0 (.int .i64 rm)).set 1 (.slice a3 l1.length cap3)).set 2 (.int .i64 lost))
          have HO5 : Hid (Only [gx] w4 (((w4.setCell ⟨gx, 0, none⟩ (.int .i64 rm)).setCell ⟨gx, 1, none⟩ (.slice a3 l1.length cap3)).setCell ⟨gx, 2, none⟩ (.int .i64 lost))) := (((Only.refl _ _).setCell (by simp) _).setCell (by simp) _).setCell (by simp) _
          have HBUF5 : Hid (BufIs (((w4.setCell ⟨gx, 0, none⟩ (.int .i64 rm)).setCell ⟨gx, 1, none⟩ (.slice a3 l1.length cap3)).setCell ⟨gx, 2, none⟩ (.int .i64 lost)) W.heap.size h rm wait lost) := (HBUF.out.later HB4.out).only HO5.out (fun q hq hs => hgo (by simp at hs; rw [← hs]; exact hq))
          have HB5 : Hid (Below W.heap.size W (((w4.setCell ⟨gx, 0, none⟩ (.int .i64 rm)).setCell ⟨gx, 1, none⟩ (.slice a3 l1.length cap3)).setCell ⟨gx, 2, none⟩ (.int .i64 lost))) := (HB.out.trans (HB4.out.mono HB.out.size)).trans (HO5.out.below (by have := HB.out.size; omega) (by simp; omega))
          have hs5 : (((w4.setCell ⟨gx, 0, none⟩ (.int .i64 rm)).setCell ⟨gx, 1, none⟩ (.slice a3 l1.length cap3)).setCell ⟨gx, 2, none⟩ (.int .i64 lost)).heap.size = w4.heap.size := by simp [World.setCell]
          have HS5 := hid hs5
          have HR5 : Hid (RowsOf (fun b => W.heap.size + 1 ≤ b ∧ b < wr.heap.size ∧ ¬ b ∈ own W.heap.size h ∧ b ≠ gx) Sp.enc 11 (((w4.setCell ⟨gx, 0, none⟩ (.int .i64 rm)).setCell ⟨gx, 1, none⟩ (.slice a3 l1.length cap3)).setCell ⟨gx, 2, none⟩ (.int .i64 lost)) (.slice a3 l1.length cap3) l1) := (hr3.out.only HB34.out (fun b hb => ⟨Nat.lt_of_lt_of_le hb.2.1 hw3r, by simp; omega⟩)).only HO5.out (fun b hb => ⟨Nat.lt_of_lt_of_le hb.2.1 hs4, by simpa using hb.2.2.2⟩)
          have HR5b : Hid (RowsOf (fun b => W.heap.size + 1 ≤ b ∧ b < wr.heap.size ∧ ¬ b ∈ own W.heap.size h ∧ b ≠ gx) Sp.enc 11 (((w4.setCell ⟨gx, 0, none⟩ (.int .i64 rm)).setCell ⟨gx, 1, none⟩ (.slice a3 l1.length cap3)).setCell ⟨gx, 2, none⟩ (.int .i64 lost)) (.slice a4 l2.length cap4) l2) := (hr4.out.only HB34.out (fun b hb => ⟨Nat.lt_of_lt_of_le hb.2.1 hw3r, by simp; omega⟩)).only HO5.out (fun b hb => ⟨Nat.lt_of_lt_of_le hb.2.1 hs4, by simpa using hb.2.2.2⟩)
          have d11 : w4.cell? ⟨b, off + k * 12 + 11, none⟩ = some (.int .i64 y.take) := (HB4.out.cell hblt).trans c11
          have hne3 : ¬ b = gx := by omega
          have hne4 : ¬ gx = b := by omega
          clear hr4 c11
          clear hs5 hr3 hbel3 hbw3 x0 x1 x2 KEEP HRT
          go_wp2_with fail
          refine (take2 W.heap.size h rm wait l1 l2 lost y.take j _ HBUF5.out HJ.out HL1.out HL2.out).mono ?_
          rintro e w6 ⟨a6, cap6, rfl, ho6, hb6, hr6⟩
          have HBUF6 := hid hb6
          have HX6 := hid (HX5.out.only ho6 hgo)
          have HR6 := hid (HR5.out.only ho6 (fun b hb => ⟨by have := HS5.out; omega, hb.2.2.1⟩))
          have HR6b := hid (HR5b.out.only ho6 (fun b hb => ⟨by have := HS5.out; omega, hb.2.2.1⟩))
          have HB6 : Hid (Below W.heap.size W w6) := HB5.out.trans (HBUF5.out.below ho6)
          have hs6 : wr.heap.size ≤ w6.heap.size := by have := ho6.size; have := HS5.out; omega
          clear ho6 hb6 v0 v1 v2 z0 z1 z2 zf0 zf1 zf2 d11
          go_wp2_with fail
          refine (same_list _ _ l2 _ ⟨_, fun b hb => hb.2, hr6.out⟩ ⟨_, fun b hb => Nat.lt_of_lt_of_le hb.2.1 hs6, HR6b.out⟩ (by omega)).mono ?_
          rintro e w7 ⟨rfl, hb7⟩
          have HBUF7 := hid (HBUF6.out.later hb7)
          have HX7 := hid (HX6.out.later hb7)
          have HRW7 : Hid (RowsOf (fun b => W.heap.size + 1 ≤ b ∧ b < w7.heap.size ∧ ¬ b ∈ own W.heap.size h ∧ b ≠ gx) Sp.enc 11 w7 (.slice a3 l1.length cap3) l1) :=
            (HR6.out.below hb7 (fun b hb => Nat.lt_of_lt_of_le hb.2.1 hs6)).imp (fun b hb => ⟨hb.1, by have := hb7.size; omega, hb.2.2⟩)
          have HB7 := hid (HB6.out.trans (hb7.mono HB6.out.size))
          have hgo7 := hgo
          clear hb7 hr6
          have hl1 : l1.length ≤ 1000000 := by obtain ⟨_, _, _, _, q, q2, _⟩ := HBUF7.out; omega
          have q1 : w7.cell? ⟨gx, 1, none⟩ = some (.slice a3 l1.length cap3) := HX7.out.cell 1
          have q2 : w7.cell? ⟨gx, 2, none⟩ = some (.int .i64 lost) := HX7.out.cell 2
          have hgx7 : gx < w7.heap.size := HX7.out.lt
          have KEEP7 : Hid (∀ w', Below w7.heap.size w7 w' → w'.cell? ⟨gx, 1, none⟩ = some (.slice a3 l1.length cap3) ∧ w'.cell? ⟨gx, 2, none⟩ = some (.int .i64 lost)) := fun w' hw => ⟨(hw.cell hgx7).trans q1, (hw.cell hgx7).trans q2⟩
          have HM7 : Hid (∀ w', Below w7.heap.size w7 w' → ∃ p : Nat → Prop, (∀ b, p b → b < w'.heap.size) ∧ RowsOf p Sp.enc 11 w' (.slice a3 l1.length cap3) l1) := fun w' hw => ⟨_, fun b hb => Nat.lt_of_lt_of_le hb.2.1 hw.size, HRW7.out.below hw (fun b hb => hb.2.1)⟩
          go_wp2_with fail
          go_region_held3 (fun w' => w'.cell? ⟨gx, 1, none⟩ = some (.slice a3 l1.length cap3) ∧ w'.cell? ⟨gx, 2, none⟩ = some (.int .i64 lost))
            (first | exact KEEP7.out _ hc9 | exact KEEP7.out _ hc8 | exact KEEP7.out _ (Below.refl _ _).drew)
            ((first
              | (go_at_call 54; refine (all_any W.heap.size h rm l1 lost _ HBUF7.out.drew).mono ?_; rintro e8 w8 ⟨a8, cap8, rfl, hbel8, hr8⟩; have hc8 : Below w7.heap.size w7 w8 := drewL hbel8)
              | (go_at_call 50; refine (same_list _ _ l1 _ ⟨_, fun b hb => hb.2, hr8.out⟩ (HM7.out _ hc8) hl1).mono ?_; rintro e9 w9 ⟨rfl, hbel9⟩; have hc9 : Below w7.heap.size w7 w9 := hc8.trans (hbel9.mono hc8.size))
              | (go_at_call 55; refine (len_any W.heap.size h rm l1 lost _ (HBUF7.out.later hc9)).mono ?_; rintro e w' ⟨rfl, rfl⟩)
              | (go_at_call 56; refine (lost_any W.heap.size h rm l1 lost _ (HBUF7.out.later hc9)).mono ?_; rintro e w' ⟨rfl, rfl⟩)))
          have HB9 : Hid (Below W.heap.size W w9) := HB7.out.trans (hc9.mono HB7.out.size)
          have HQ9 : Hid (PlayQ (W.heap.size + 1) W.heap.size gx rm w9) := ⟨⟨h, l1, lost, a3, cap3, HBUF7.out.later hc9, HX7.out.later hc9, (HRW7.out.below hc9 (fun b hb => hb.2.1)).imp (fun b hb => ⟨hb.1, Nat.lt_of_lt_of_le hb.2.1 hc9.size, hb.2.2⟩), hgo7⟩, hgB⟩
          clear hc8 hc9 hbel8 hbel9 hr8 q1 q2 KEEP7 HM7
          go_wp2_with fail
          go_roundw
          case rel => exact ⟨k + 1, by omega, by go_num, HB9.out, HQ9.out⟩
          case measure => simp [intOf]; omega
        · obtain ⟨w4, hw4⟩ : ∃ w4, w4 = ((w3.setCell ⟨wr.heap.size, 0, none⟩ (.int .i64 rm)).setCell ⟨wr.heap.size, 1, none⟩ (.slice a3 l1.length cap3)).setCell ⟨wr.heap.size, 2, none⟩ (.int .i64 lost) := ⟨_, rfl⟩
          obtain ⟨gy, hgy⟩ : ∃ g, g = wr.heap.size := ⟨_, rfl⟩
          rw [← hw4, ← hgy]
          have HY : Hid (Blk w4 gy #[.int .i64 rm, .slice a3 l1.length cap3, .int .i64 lost] 73) := hid (by rw [hw4, hgy]; simpa using ((HK3.out.set 0 (.int .i64 rm)).set 1 (.slice a3 l1.length cap3)).set 2 (.int .i64 lost))
          have HB4 : Hid (Below wr.heap.size wr w4) := hid (by rw [hw4]; exact ((hbw3.setCell (by simp) _).setCell (by simp) _).setCell (by simp) _)
          have HB34 : Hid (Only [gy] w3 w4) := hid (by rw [hw4, hgy]; exact (((Only.refl _ _).setCell (by simp) _).setCell (by simp) _).setCell (by simp) _)
          have hgyl : wr.heap.size ≤ gy := by rw [hgy]; exact Nat.le_refl _
          clear hw4 hgy y0 y1 y2 yf0 yf1 yf2 HK3
          have HX4 : Hid (Blk w4 gx #[.int .i64 rm, .slice ax wait.length capx, .int .i64 lost] 73) := HX.out.later HB4.out
          have v0 : w4.cell? ⟨gy, 0, none⟩ = some (.int .i64 rm) := HY.out.cell 0
          have v1 : w4.cell? ⟨gy, 1, none⟩ = some (.slice a3 l1.length cap3) := HY.out.cell 1
          have v2 : w4.cell? ⟨gy, 2, none⟩ = some (.int .i64 lost) := HY.out.cell 2
          have z0 : w4.cell? ⟨gx, 0, none⟩ = some (.int .i64 rm) := HX4.out.cell 0
          have z1 : w4.cell? ⟨gx, 1, none⟩ = some (.slice ax wait.length capx) := HX4.out.cell 1
          have z2 : w4.cell? ⟨gx, 2, none⟩ = some (.int .i64 lost) := HX4.out.cell 2
          have zf0 := HX4.out.free 0
          have zf1 := HX4.out.free 1
          have zf2 := HX4.out.free 2
          have hs4 := HB4.out.size
          have hw3s : w3.heap.size ≤ w4.heap.size := HB34.out.size
          have hw3r : wr.heap.size ≤ w3.heap.size := hbw3.size
          have hne1 : ¬ gy = gx := by omega
          have hne2 : ¬ gx = gy := by omega
          have HX5 : Hid (Blk (((w4.setCell ⟨gx, 0, none⟩ (.int .i64 rm)).setCell ⟨gx, 1, none⟩ (.slice a3 l1.length cap3)).setCell ⟨gx, 2, none⟩ (.int .i64 lost)) gx #[.int .i64 rm, .slice a3 l1.length cap3, .int .i64 lost] 73) := hid (by simpa using ((HX4.out.set 0 (.int .i64 rm)).set 1 (.slice a3 l1.length cap3)).set 2 (.int .i64 lost))
          have HO5 : Hid (Only [gx] w4 (((w4.setCell ⟨gx, 0, none⟩ (.int .i64 rm)).setCell ⟨gx, 1, none⟩ (.slice a3 l1.length cap3)).setCell ⟨gx, 2, none⟩ (.int .i64 lost))) := (((Only.refl _ _).setCell (by simp) _).setCell (by simp) _).setCell (by simp) _
          have HBUF5 : Hid (BufIs (((w4.setCell ⟨gx, 0, none⟩ (.int .i64 rm)).setCell ⟨gx, 1, none⟩ (.slice a3 l1.length cap3)).setCell ⟨gx, 2, none⟩ (.int .i64 lost)) W.heap.size h rm wait lost) := (HBUF.out.later HB4.out).only HO5.out (fun q hq hs => hgo (by simp at hs; rw [← hs]; exact hq))
          have HB5 : Hid (Below W.heap.size W (((w4.setCell ⟨gx, 0, none⟩ (.int .i64 rm)).setCell ⟨gx, 1, none⟩ (.slice a3 l1.length cap3)).setCell ⟨gx, 2, none⟩ (.int .i64 lost))) := (HB.out.trans (HB4.out.mono HB.out.size)).trans (HO5.out.below (by have := HB.out.size; omega) (by simp; omega))
          have hs5 : (((w4.setCell ⟨gx, 0, none⟩ (.int .i64 rm)).setCell ⟨gx, 1, none⟩ (.slice a3 l1.length cap3)).setCell ⟨gx, 2, none⟩ (.int .i64 lost)).heap.size = w4.heap.size := by simp [World.setCell]
          have HS5 := hid hs5
          have HR5 : Hid (RowsOf (fun b => W.heap.size + 1 ≤ b ∧ b < wr.heap.size ∧ ¬ b ∈ own W.heap.size h ∧ b ≠ gx) Sp.enc 11 (((w4.setCell ⟨gx, 0, none⟩ (.int .i64 rm)).setCell ⟨gx, 1, none⟩ (.slice a3 l1.length cap3)).setCell ⟨gx, 2, none⟩ (.int .i64 lost)) (.slice a3 l1.length cap3) l1) := (hr3.out.only HB34.out (fun b hb => ⟨Nat.lt_of_lt_of_le hb.2.1 hw3r, by simp; omega⟩)).only HO5.out (fun b hb => ⟨Nat.lt_of_lt_of_le hb.2.1 hs4, by simpa using hb.2.2.2⟩)
          have HR5b : Hid (RowsOf (fun b => W.heap.size + 1 ≤ b ∧ b < wr.heap.size ∧ ¬ b ∈ own W.heap.size h ∧ b ≠ gx) Sp.enc 11 (((w4.setCell ⟨gx, 0, none⟩ (.int .i64 rm)).setCell ⟨gx, 1, none⟩ (.slice a3 l1.length cap3)).setCell ⟨gx, 2, none⟩ (.int .i64 lost)) (.slice a4 l2.length cap4) l2) := (hr4.out.only HB34.out (fun b hb => ⟨Nat.lt_of_lt_of_le hb.2.1 hw3r, by simp; omega⟩)).only HO5.out (fun b hb => ⟨Nat.lt_of_lt_of_le hb.2.1 hs4, by simpa using hb.2.2.2⟩)
          have d11 : w4.cell? ⟨b, off + k * 12 + 11, none⟩ = some (.int .i64 y.take) := (HB4.out.cell hblt).trans c11
          have hne3 : ¬ b = gx := by omega
          have hne4 : ¬ gx = b := by omega
          clear hr4 c11
          clear hs5 hr3 hbel3 hbw3 x0 x1 x2 KEEP HRT
          go_wp2_with fail
          refine (take2 W.heap.size h rm wait l1 l2 lost y.take j _ HBUF5.out HJ.out HL1.out HL2.out).mono ?_
          rintro e w6 ⟨a6, cap6, rfl, ho6, hb6, hr6⟩
          have HBUF6 := hid hb6
          have HX6 := hid (HX5.out.only ho6 hgo)
          have HR6 := hid (HR5.out.only ho6 (fun b hb => ⟨by have := HS5.out; omega, hb.2.2.1⟩))
          have HR6b := hid (HR5b.out.only ho6 (fun b hb => ⟨by have := HS5.out; omega, hb.2.2.1⟩))
          have HB6 : Hid (Below W.heap.size W w6) := HB5.out.trans (HBUF5.out.below ho6)
          have hs6 : wr.heap.size ≤ w6.heap.size := by have := ho6.size; have := HS5.out; omega
          clear ho6 hb6 v0 v1 v2 z0 z1 z2 zf0 zf1 zf2 d11
          go_wp2_with fail
          refine (same_list _ _ l2 _ ⟨_, fun b hb => hb.2, hr6.out⟩ ⟨_, fun b hb => Nat.lt_of_lt_of_le hb.2.1 hs6, HR6b.out⟩ (by omega)).mono ?_
          rintro e w7 ⟨rfl, hb7⟩
          have HBUF7 := hid (HBUF6.out.later hb7)
          have HX7 := hid (HX6.out.later hb7)
          have HRW7 : Hid (RowsOf (fun b => W.heap.size + 1 ≤ b ∧ b < w7.heap.size ∧ ¬ b ∈ own W.heap.size h ∧ b ≠ gx) Sp.enc 11 w7 (.slice a3 l1.length cap3) l1) :=
            (HR6.out.below hb7 (fun b hb => Nat.lt_of_lt_of_le hb.2.1 hs6)).imp (fun b hb => ⟨hb.1, by have := hb7.size; omega, hb.2.2⟩)
          have HB7 := hid (HB6.out.trans (hb7.mono HB6.out.size))
          have hgo7 := hgo
          clear hb7 hr6
          have hl1 : l1.length ≤ 1000000 := by obtain ⟨_, _, _, _, q, q2, _⟩ := HBUF7.out; omega
          have q1 : w7.cell? ⟨gx, 1, none⟩ = some (.slice a3 l1.length cap3) := HX7.out.cell 1
          have q2 : w7.cell? ⟨gx, 2, none⟩ = some (.int .i64 lost) := HX7.out.cell 2
          have hgx7 : gx < w7.heap.size := HX7.out.lt
          have KEEP7 : Hid (∀ w', Below w7.heap.size w7 w' → w'.cell? ⟨gx, 1, none⟩ = some (.slice a3 l1.length cap3) ∧ w'.cell? ⟨gx, 2, none⟩ = some (.int .i64 lost)) := fun w' hw => ⟨(hw.cell hgx7).trans q1, (hw.cell hgx7).trans q2⟩
          have HM7 : Hid (∀ w', Below w7.heap.size w7 w' → ∃ p : Nat → Prop, (∀ b, p b → b < w'.heap.size) ∧ RowsOf p Sp.enc 11 w' (.slice a3 l1.length cap3) l1) := fun w' hw => ⟨_, fun b hb => Nat.lt_of_lt_of_le hb.2.1 hw.size, HRW7.out.below hw (fun b hb => hb.2.1)⟩
          go_wp2_with fail
          go_region_held3 (fun w' => w'.cell? ⟨gx, 1, none⟩ = some (.slice a3 l1.length cap3) ∧ w'.cell? ⟨gx, 2, none⟩ = some (.int .i64 lost))
            (first | exact KEEP7.out _ hc9 | exact KEEP7.out _ hc8 | exact KEEP7.out _ (Below.refl _ _).drew)
            ((first
              | (go_at_call 54; refine (all_any W.heap.size h rm l1 lost _ HBUF7.out.drew).mono ?_; rintro e8 w8 ⟨a8, cap8, rfl, hbel8, hr8⟩; have hc8 : Below w7.heap.size w7 w8 := drewL hbel8)
              | (go_at_call 50; refine (same_list _ _ l1 _ ⟨_, fun b hb => hb.2, hr8.out⟩ (HM7.out _ hc8) hl1).mono ?_; rintro e9 w9 ⟨rfl, hbel9⟩; have hc9 : Below w7.heap.size w7 w9 := hc8.trans (hbel9.mono hc8.size))
              | (go_at_call 55; refine (len_any W.heap.size h rm l1 lost _ (HBUF7.out.later hc9)).mono ?_; rintro e w' ⟨rfl, rfl⟩)
              | (go_at_call 56; refine (lost_any W.heap.size h rm l1 lost _ (HBUF7.out.later hc9)).mono ?_; rintro e w' ⟨rfl, rfl⟩)))
          have HB9 : Hid (Below W.heap.size W w9) := HB7.out.trans (hc9.mono HB7.out.size)
          have HQ9 : Hid (PlayQ (W.heap.size + 1) W.heap.size gx rm w9) := ⟨⟨h, l1, lost, a3, cap3, HBUF7.out.later hc9, HX7.out.later hc9, (HRW7.out.below hc9 (fun b hb => hb.2.1)).imp (fun b hb => ⟨hb.1, Nat.lt_of_lt_of_le hb.2.1 hc9.size, hb.2.2⟩), hgo7⟩, hgB⟩
          clear hc8 hc9 hbel8 hbel9 hr8 q1 q2 KEEP7 HM7
          go_wp2_with fail
          go_roundw
          case rel => exact ⟨k + 1, by omega, by go_num, HB9.out, HQ9.out⟩
          case measure => simp [intOf]; omega
      · obtain ⟨pr, hpr⟩ : ∃ x, putR rm (wait, lost) y.sp = x := ⟨_, rfl⟩
        obtain ⟨ok, hok⟩ : ∃ x, decide (wait.length < rm) = x := ⟨_, rfl⟩
        have HPR := hid hpr
        have HOK := hid hok
        have KEEP : Hid (∀ w', Below wr.heap.size wr w' → w'.cell? ⟨gx, 0, none⟩ = some (.int .i64 rm) ∧ w'.cell? ⟨gx, 1, none⟩ = some (.slice ax wait.length capx) ∧ w'.cell? ⟨gx, 2, none⟩ = some (.int .i64 lost) ∧ w'.cell? ⟨b, off + k * 12, none⟩ = some (.int .u64 y.sp.hi) ∧ w'.cell? ⟨b, off + k * 12 + 1, none⟩ = some (.int .u64 y.sp.lo) ∧ w'.cell? ⟨b, off + k * 12 + 2, none⟩ = some (.int .u64 y.sp.id) ∧ w'.cell? ⟨b, off + k * 12 + 3, none⟩ = some (.int .u64 y.sp.up) ∧ w'.cell? ⟨b, off + k * 12 + 4, none⟩ = some (.string y.sp.name) ∧ w'.cell? ⟨b, off + k * 12 + 5, none⟩ = some (.int .i64 y.sp.status) ∧ w'.cell? ⟨b, off + k * 12 + 6, none⟩ = some (.int .i64 y.sp.seq) ∧ w'.cell? ⟨b, off + k * 12 + 7, none⟩ = some (.int .i64 y.sp.kids) ∧ w'.cell? ⟨b, off + k * 12 + 8, none⟩ = some (.bool y.sp.shadow) ∧ w'.cell? ⟨b, off + k * 12 + 9, none⟩ = some (.int .i64 y.sp.start) ∧ w'.cell? ⟨b, off + k * 12 + 10, none⟩ = some (.int .i64 y.sp.stop)) :=
          fun w' hw => ⟨(hw.cell hgxlt).trans x0, (hw.cell hgxlt).trans x1, (hw.cell hgxlt).trans x2, (hw.cell hblt).trans c0, (hw.cell hblt).trans c1, (hw.cell hblt).trans c2, (hw.cell hblt).trans c3, (hw.cell hblt).trans c4, (hw.cell hblt).trans c5, (hw.cell hblt).trans c6, (hw.cell hblt).trans c7, (hw.cell hblt).trans c8, (hw.cell hblt).trans c9, (hw.cell hblt).trans c10⟩
        have HRT : Hid (∀ w', Below wr.heap.size wr w' → Calls Try.prog 52 #[.agg #[.int .i64 rm, .slice ax wait.length capx, .int .i64 lost], .agg #[.int .u64 y.sp.hi, .int .u64 y.sp.lo, .int .u64 y.sp.id, .int .u64 y.sp.up, .string y.sp.name, .int .i64 y.sp.status, .int .i64 y.sp.seq, .int .i64 y.sp.kids, .bool y.sp.shadow, .int .i64 y.sp.start, .int .i64 y.sp.stop]] w' (RPutAny (fun b => W.heap.size + 1 ≤ b ∧ b < wr.heap.size ∧ ¬ b ∈ own W.heap.size h ∧ b ≠ gx) rm pr ok w')) :=
          fun w' hw => by
            obtain ⟨_, _, _, _, q, q2, q3, q4⟩ := HBUF.out
            exact ref_put_any rm _ wait lost y.sp pr ok w' (HRW.out.below hw (fun b hb => hb.2.1)) (fun b hb => Nat.lt_of_lt_of_le hb.2.1 hw.size) q q2 q3 q4 HPR.out HOK.out
        clear hpr hok
        go_wp2_with fail
        go_region_held3 (fun w' => w'.cell? ⟨gx, 0, none⟩ = some (.int .i64 rm) ∧ w'.cell? ⟨gx, 1, none⟩ = some (.slice ax wait.length capx) ∧ w'.cell? ⟨gx, 2, none⟩ = some (.int .i64 lost) ∧ w'.cell? ⟨b, off + k * 12, none⟩ = some (.int .u64 y.sp.hi) ∧ w'.cell? ⟨b, off + k * 12 + 1, none⟩ = some (.int .u64 y.sp.lo) ∧ w'.cell? ⟨b, off + k * 12 + 2, none⟩ = some (.int .u64 y.sp.id) ∧ w'.cell? ⟨b, off + k * 12 + 3, none⟩ = some (.int .u64 y.sp.up) ∧ w'.cell? ⟨b, off + k * 12 + 4, none⟩ = some (.string y.sp.name) ∧ w'.cell? ⟨b, off + k * 12 + 5, none⟩ = some (.int .i64 y.sp.status) ∧ w'.cell? ⟨b, off + k * 12 + 6, none⟩ = some (.int .i64 y.sp.seq) ∧ w'.cell? ⟨b, off + k * 12 + 7, none⟩ = some (.int .i64 y.sp.kids) ∧ w'.cell? ⟨b, off + k * 12 + 8, none⟩ = some (.bool y.sp.shadow) ∧ w'.cell? ⟨b, off + k * 12 + 9, none⟩ = some (.int .i64 y.sp.start) ∧ w'.cell? ⟨b, off + k * 12 + 10, none⟩ = some (.int .i64 y.sp.stop))
          (first
            | exact KEEP.out _ hbw3
            | exact KEEP.out _ (hbw3.alloc hbw3.size _)
            | exact KEEP.out _ (Below.refl _ _).drew
            | exact KEEP.out _ ((Below.refl _ _).alloc (Nat.le_refl _) _).drew
            | exact KEEP.out _ (((hbw3.setCell (by simp) _).setCell (by simp) _).setCell (by simp) _)
            | go_keep)
          ((first
            | (go_at_call 52; refine (HRT.out _ (Below.refl _ _).drew).mono ?_; rintro e3 w3 ⟨a3, cap3, rfl, hbel3, hr3⟩; have hbw3 : Below wr.heap.size wr w3 := drewL hbel3)
            | (go_at_call 52; refine (HRT.out _ ((Below.refl _ _).alloc (Nat.le_refl _) _).drew).mono ?_; rintro e3 w3 ⟨a3, cap3, rfl, hbel3, hr3⟩; have hbw3 : Below wr.heap.size wr w3 := ((Below.refl _ _).alloc (Nat.le_refl _) _).drew.trans (hbel3.mono (by simp)); have hk3 : Blk w3 wr.heap.size #[.int .i64 0, .slice none 0 0, .int .i64 0] 73 := (Blk.new wr _ 73).drew.later hbel3; have y0 : w3.cell? ⟨wr.heap.size, 0, none⟩ = some (.int .i64 0) := hk3.cell 0; have y1 : w3.cell? ⟨wr.heap.size, 1, none⟩ = some (.slice none 0 0) := hk3.cell 1; have y2 : w3.cell? ⟨wr.heap.size, 2, none⟩ = some (.int .i64 0) := hk3.cell 2; have yf0 := hk3.free 0; have yf1 := hk3.free 1; have yf2 := hk3.free 2; have HK3 := hid hk3; clear hk3)))
        · obtain ⟨w4, hw4⟩ : ∃ w4, w4 = w3.alloc (.cells #[.int .i64 rm, .slice a3 pr.1.length cap3, .int .i64 pr.2] 73) := ⟨_, rfl⟩
          obtain ⟨gy, hgy⟩ : ∃ g, g = w3.heap.size := ⟨_, rfl⟩
          rw [← hw4, ← hgy]
          have HY : Hid (Blk w4 gy #[.int .i64 rm, .slice a3 pr.1.length cap3, .int .i64 pr.2] 73) := hid (by rw [hw4, hgy]; exact Blk.new _ _ _)
          have HB4 : Hid (Below wr.heap.size wr w4) := hid (by rw [hw4]; exact hbw3.alloc hbw3.size _)
          have HB34 : Hid (Only [gy] w3 w4) := hid (by rw [hw4]; exact (Only.refl _ _).alloc _)
          have hgyl : wr.heap.size ≤ gy := by rw [hgy]; exact hbw3.size
          have HR3' : Hid (RowsOf (fun b => (W.heap.size + 1 ≤ b ∧ b < wr.heap.size ∧ ¬ b ∈ own W.heap.size h ∧ b ≠ gx) ∨ (wr.heap.size ≤ b ∧ b < w3.heap.size ∧ b ≠ gy)) Sp.enc 11 w3 (.slice a3 pr.1.length cap3) pr.1) := hid (hr3.out.imp (fun b hb => by rcases hb with hb | hb; exact .inl hb; exact .inr ⟨hb.1, hb.2, by have := hb.2; omega⟩))
          clear hw4 hgy
          have HX4 : Hid (Blk w4 gx #[.int .i64 rm, .slice ax wait.length capx, .int .i64 lost] 73) := HX.out.later HB4.out
          have v0 : w4.cell? ⟨gy, 0, none⟩ = some (.int .i64 rm) := HY.out.cell 0
          have v1 : w4.cell? ⟨gy, 1, none⟩ = some (.slice a3 pr.1.length cap3) := HY.out.cell 1
          have v2 : w4.cell? ⟨gy, 2, none⟩ = some (.int .i64 pr.2) := HY.out.cell 2
          have z0 : w4.cell? ⟨gx, 0, none⟩ = some (.int .i64 rm) := HX4.out.cell 0
          have z1 : w4.cell? ⟨gx, 1, none⟩ = some (.slice ax wait.length capx) := HX4.out.cell 1
          have z2 : w4.cell? ⟨gx, 2, none⟩ = some (.int .i64 lost) := HX4.out.cell 2
          have zf0 := HX4.out.free 0
          have zf1 := HX4.out.free 1
          have zf2 := HX4.out.free 2
          have hs4 := HB4.out.size
          have hw3s : w3.heap.size ≤ w4.heap.size := HB34.out.size
          have hw3r : wr.heap.size ≤ w3.heap.size := hbw3.size
          have hne1 : ¬ gy = gx := by omega
          have hne2 : ¬ gx = gy := by omega
          have HX5 : Hid (Blk (((w4.setCell ⟨gx, 0, none⟩ (.int .i64 rm)).setCell ⟨gx, 1, none⟩ (.slice a3 pr.1.length cap3)).setCell ⟨gx, 2, none⟩ (.int .i64 pr.2)) gx #[.int .i64 rm, .slice a3 pr.1.length cap3, .int .i64 pr.2] 73) := hid (by simpa using ((HX4.out.set 0 (.int .i64 rm)).set 1 (.slice a3 pr.1.length cap3)).set 2 (.int .i64 pr.2))
          have HO5 : Hid (Only [gx] w4 (((w4.setCell ⟨gx, 0, none⟩ (.int .i64 rm)).setCell ⟨gx, 1, none⟩ (.slice a3 pr.1.length cap3)).setCell ⟨gx, 2, none⟩ (.int .i64 pr.2))) := (((Only.refl _ _).setCell (by simp) _).setCell (by simp) _).setCell (by simp) _
          have HBUF5 : Hid (BufIs (((w4.setCell ⟨gx, 0, none⟩ (.int .i64 rm)).setCell ⟨gx, 1, none⟩ (.slice a3 pr.1.length cap3)).setCell ⟨gx, 2, none⟩ (.int .i64 pr.2)) W.heap.size h rm wait lost) := (HBUF.out.later HB4.out).only HO5.out (fun q hq hs => hgo (by simp at hs; rw [← hs]; exact hq))
          have HB5 : Hid (Below W.heap.size W (((w4.setCell ⟨gx, 0, none⟩ (.int .i64 rm)).setCell ⟨gx, 1, none⟩ (.slice a3 pr.1.length cap3)).setCell ⟨gx, 2, none⟩ (.int .i64 pr.2))) := (HB.out.trans (HB4.out.mono HB.out.size)).trans (HO5.out.below (by have := HB.out.size; omega) (by simp; omega))
          have hs5 : (((w4.setCell ⟨gx, 0, none⟩ (.int .i64 rm)).setCell ⟨gx, 1, none⟩ (.slice a3 pr.1.length cap3)).setCell ⟨gx, 2, none⟩ (.int .i64 pr.2)).heap.size = w4.heap.size := by simp [World.setCell]
          have HS5 := hid hs5
          have HR5 : Hid (RowsOf (fun b => (W.heap.size + 1 ≤ b ∧ b < wr.heap.size ∧ ¬ b ∈ own W.heap.size h ∧ b ≠ gx) ∨ (wr.heap.size ≤ b ∧ b < w3.heap.size ∧ b ≠ gy)) Sp.enc 11 (((w4.setCell ⟨gx, 0, none⟩ (.int .i64 rm)).setCell ⟨gx, 1, none⟩ (.slice a3 pr.1.length cap3)).setCell ⟨gx, 2, none⟩ (.int .i64 pr.2)) (.slice a3 pr.1.length cap3) pr.1) := (HR3'.out.only HB34.out (fun b hb => ⟨by rcases hb with hb | hb <;> omega, by simp; rcases hb with hb | hb <;> omega⟩)).only HO5.out (fun b hb => ⟨by rcases hb with hb | hb <;> omega, by simp; rcases hb with hb | hb <;> omega⟩)
          have d0 : w4.cell? ⟨b, off + k * 12, none⟩ = some (.int .u64 y.sp.hi) := (HB4.out.cell hblt).trans c0
          have d1 : w4.cell? ⟨b, off + k * 12 + 1, none⟩ = some (.int .u64 y.sp.lo) := (HB4.out.cell hblt).trans c1
          have d2 : w4.cell? ⟨b, off + k * 12 + 2, none⟩ = some (.int .u64 y.sp.id) := (HB4.out.cell hblt).trans c2
          have d3 : w4.cell? ⟨b, off + k * 12 + 3, none⟩ = some (.int .u64 y.sp.up) := (HB4.out.cell hblt).trans c3
          have d4 : w4.cell? ⟨b, off + k * 12 + 4, none⟩ = some (.string y.sp.name) := (HB4.out.cell hblt).trans c4
          have d5 : w4.cell? ⟨b, off + k * 12 + 5, none⟩ = some (.int .i64 y.sp.status) := (HB4.out.cell hblt).trans c5
          have d6 : w4.cell? ⟨b, off + k * 12 + 6, none⟩ = some (.int .i64 y.sp.seq) := (HB4.out.cell hblt).trans c6
          have d7 : w4.cell? ⟨b, off + k * 12 + 7, none⟩ = some (.int .i64 y.sp.kids) := (HB4.out.cell hblt).trans c7
          have d8 : w4.cell? ⟨b, off + k * 12 + 8, none⟩ = some (.bool y.sp.shadow) := (HB4.out.cell hblt).trans c8
          have d9 : w4.cell? ⟨b, off + k * 12 + 9, none⟩ = some (.int .i64 y.sp.start) := (HB4.out.cell hblt).trans c9
          have d10 : w4.cell? ⟨b, off + k * 12 + 10, none⟩ = some (.int .i64 y.sp.stop) := (HB4.out.cell hblt).trans c10
          have hne3 : ¬ b = gx := by omega
          have hne4 : ¬ gx = b := by omega
          clear c0 c1 c2 c3 c4 c5 c6 c7 c8 c9 c10 c11
          clear hs5 hr3 HR3' hbel3 hbw3 x0 x1 x2 KEEP HRT
          have HOL : Hid (∀ q, q ∈ own W.heap.size h → q < wr.heap.size) := HBUF.out.lt
          go_wp2_with fail
          refine (put2 W.heap.size h rm wait lost y.sp pr ok _ HBUF5.out HPR.out HOK.out).mono ?_
          rintro e w6 ⟨rfl, ho6, h6, hm6, hb6⟩
          have HBUF6 := hid hb6
          have HX6 := hid (HX5.out.only ho6 hgo)
          have HMV : Hid (∀ q, q ∈ own W.heap.size h6 → q ∈ own W.heap.size h ∨ w4.heap.size ≤ q) := moved_moves hm6 (Nat.le_of_eq HS5.out.symm)
          have HRW6 : Hid (RowsOf (fun b => W.heap.size + 1 ≤ b ∧ b < w6.heap.size ∧ ¬ b ∈ own W.heap.size h6 ∧ b ≠ gx) Sp.enc 11 w6 (.slice a3 pr.1.length cap3) pr.1) := by
            have hs6 := ho6.size
            have hs5 := HS5.out
            have hWr := HB.out.size
            refine (HR5.out.only ho6 (fun b hb => ⟨by rcases hb with hb | hb <;> omega, fun hm => ?_⟩)).imp (fun b hb => ⟨by rcases hb with hb | hb <;> omega, by rcases hb with hb | hb <;> omega, fun hm => ?_, by rcases hb with hb | hb <;> omega⟩)
            · have := HOL.out _ hm
              rcases hb with hb | hb
              · exact hb.2.2.1 hm
              · omega
            · rcases HMV.out _ hm with h9 | h9
              · have := HOL.out _ h9
                rcases hb with hb | hb
                · exact hb.2.2.1 h9
                · omega
              · rcases hb with hb | hb <;> omega
          have hgo6 : gx ∉ own W.heap.size h6 := fun hm => by
            rcases HMV.out _ hm with h9 | h9
            · exact hgo h9
            · omega
          have HB6 : Hid (Below W.heap.size W w6) := HB5.out.trans (HBUF5.out.below ho6)
          clear ho6 hb6 v0 v1 v2 z0 z1 z2 zf0 zf1 zf2 d0 d1 d2 d3 d4 d5 d6 d7 d8 d9 d10 hm6
          have hl7 : pr.1.length ≤ 1000000 := by obtain ⟨_, _, _, _, q, q2, _⟩ := HBUF6.out; omega
          have q1 : w6.cell? ⟨gx, 1, none⟩ = some (.slice a3 pr.1.length cap3) := HX6.out.cell 1
          have q2 : w6.cell? ⟨gx, 2, none⟩ = some (.int .i64 pr.2) := HX6.out.cell 2
          have hgx7 : gx < w6.heap.size := HX6.out.lt
          have KEEP7 : Hid (∀ w', Below w6.heap.size w6 w' → w'.cell? ⟨gx, 1, none⟩ = some (.slice a3 pr.1.length cap3) ∧ w'.cell? ⟨gx, 2, none⟩ = some (.int .i64 pr.2)) := fun w' hw => ⟨(hw.cell hgx7).trans q1, (hw.cell hgx7).trans q2⟩
          have HM7 : Hid (∀ w', Below w6.heap.size w6 w' → ∃ p : Nat → Prop, (∀ b, p b → b < w'.heap.size) ∧ RowsOf p Sp.enc 11 w' (.slice a3 pr.1.length cap3) pr.1) := fun w' hw => ⟨_, fun b hb => Nat.lt_of_lt_of_le hb.2.1 hw.size, HRW6.out.below hw (fun b hb => hb.2.1)⟩
          go_wp2_with fail
          go_region_held3 (fun w' => w'.cell? ⟨gx, 1, none⟩ = some (.slice a3 pr.1.length cap3) ∧ w'.cell? ⟨gx, 2, none⟩ = some (.int .i64 pr.2))
            (first | exact KEEP7.out _ hc9 | exact KEEP7.out _ hc8 | exact KEEP7.out _ (Below.refl _ _).drew)
            ((first
              | (go_at_call 54; refine (all_any W.heap.size h6 rm pr.1 pr.2 _ HBUF6.out.drew).mono ?_; rintro e8 w8 ⟨a8, cap8, rfl, hbel8, hr8⟩; have hc8 : Below w6.heap.size w6 w8 := drewL hbel8)
              | (go_at_call 50; refine (same_list _ _ pr.1 _ ⟨_, fun b hb => hb.2, hr8.out⟩ (HM7.out _ hc8) hl7).mono ?_; rintro e9 w9 ⟨rfl, hbel9⟩; have hc9 : Below w6.heap.size w6 w9 := hc8.trans (hbel9.mono hc8.size))
              | (go_at_call 55; refine (len_any W.heap.size h6 rm pr.1 pr.2 _ (HBUF6.out.later hc9)).mono ?_; rintro e w' ⟨rfl, rfl⟩)
              | (go_at_call 56; refine (lost_any W.heap.size h6 rm pr.1 pr.2 _ (HBUF6.out.later hc9)).mono ?_; rintro e w' ⟨rfl, rfl⟩)))
          have HB9 : Hid (Below W.heap.size W w9) := HB6.out.trans (hc9.mono HB6.out.size)
          have HQ9 : Hid (PlayQ (W.heap.size + 1) W.heap.size gx rm w9) := ⟨⟨h6, pr.1, pr.2, a3, cap3, HBUF6.out.later hc9, HX6.out.later hc9, (HRW6.out.below hc9 (fun b hb => hb.2.1)).imp (fun b hb => ⟨hb.1, Nat.lt_of_lt_of_le hb.2.1 hc9.size, hb.2.2⟩), hgo6⟩, hgB⟩
          clear hc8 hc9 hbel8 hbel9 hr8 q1 q2 KEEP7 HM7
          go_wp2_with fail
          go_roundw
          case rel => exact ⟨k + 1, by omega, by go_num, HB9.out, HQ9.out⟩
          case measure => simp [intOf]; omega
        · obtain ⟨w4, hw4⟩ : ∃ w4, w4 = ((w3.setCell ⟨wr.heap.size, 0, none⟩ (.int .i64 rm)).setCell ⟨wr.heap.size, 1, none⟩ (.slice a3 pr.1.length cap3)).setCell ⟨wr.heap.size, 2, none⟩ (.int .i64 pr.2) := ⟨_, rfl⟩
          obtain ⟨gy, hgy⟩ : ∃ g, g = wr.heap.size := ⟨_, rfl⟩
          rw [← hw4, ← hgy]
          have HY : Hid (Blk w4 gy #[.int .i64 rm, .slice a3 pr.1.length cap3, .int .i64 pr.2] 73) := hid (by rw [hw4, hgy]; simpa using ((HK3.out.set 0 (.int .i64 rm)).set 1 (.slice a3 pr.1.length cap3)).set 2 (.int .i64 pr.2))
          have HB4 : Hid (Below wr.heap.size wr w4) := hid (by rw [hw4]; exact ((hbw3.setCell (by simp) _).setCell (by simp) _).setCell (by simp) _)
          have HB34 : Hid (Only [gy] w3 w4) := hid (by rw [hw4, hgy]; exact (((Only.refl _ _).setCell (by simp) _).setCell (by simp) _).setCell (by simp) _)
          have hgyl : wr.heap.size ≤ gy := by rw [hgy]; exact Nat.le_refl _
          have HR3' : Hid (RowsOf (fun b => (W.heap.size + 1 ≤ b ∧ b < wr.heap.size ∧ ¬ b ∈ own W.heap.size h ∧ b ≠ gx) ∨ (wr.heap.size ≤ b ∧ b < w3.heap.size ∧ b ≠ gy)) Sp.enc 11 w3 (.slice a3 pr.1.length cap3) pr.1) := hid (hr3.out.imp (fun b hb => by rcases hb with hb | hb; exact .inl hb; exact .inr (by have h1 := hb.1; have h2 := hb.2; simp at h1; exact ⟨by omega, h2, by omega⟩)))
          clear hw4 hgy y0 y1 y2 yf0 yf1 yf2 HK3
          have HX4 : Hid (Blk w4 gx #[.int .i64 rm, .slice ax wait.length capx, .int .i64 lost] 73) := HX.out.later HB4.out
          have v0 : w4.cell? ⟨gy, 0, none⟩ = some (.int .i64 rm) := HY.out.cell 0
          have v1 : w4.cell? ⟨gy, 1, none⟩ = some (.slice a3 pr.1.length cap3) := HY.out.cell 1
          have v2 : w4.cell? ⟨gy, 2, none⟩ = some (.int .i64 pr.2) := HY.out.cell 2
          have z0 : w4.cell? ⟨gx, 0, none⟩ = some (.int .i64 rm) := HX4.out.cell 0
          have z1 : w4.cell? ⟨gx, 1, none⟩ = some (.slice ax wait.length capx) := HX4.out.cell 1
          have z2 : w4.cell? ⟨gx, 2, none⟩ = some (.int .i64 lost) := HX4.out.cell 2
          have zf0 := HX4.out.free 0
          have zf1 := HX4.out.free 1
          have zf2 := HX4.out.free 2
          have hs4 := HB4.out.size
          have hw3s : w3.heap.size ≤ w4.heap.size := HB34.out.size
          have hw3r : wr.heap.size ≤ w3.heap.size := hbw3.size
          have hne1 : ¬ gy = gx := by omega
          have hne2 : ¬ gx = gy := by omega
          have HX5 : Hid (Blk (((w4.setCell ⟨gx, 0, none⟩ (.int .i64 rm)).setCell ⟨gx, 1, none⟩ (.slice a3 pr.1.length cap3)).setCell ⟨gx, 2, none⟩ (.int .i64 pr.2)) gx #[.int .i64 rm, .slice a3 pr.1.length cap3, .int .i64 pr.2] 73) := hid (by simpa using ((HX4.out.set 0 (.int .i64 rm)).set 1 (.slice a3 pr.1.length cap3)).set 2 (.int .i64 pr.2))
          have HO5 : Hid (Only [gx] w4 (((w4.setCell ⟨gx, 0, none⟩ (.int .i64 rm)).setCell ⟨gx, 1, none⟩ (.slice a3 pr.1.length cap3)).setCell ⟨gx, 2, none⟩ (.int .i64 pr.2))) := (((Only.refl _ _).setCell (by simp) _).setCell (by simp) _).setCell (by simp) _
          have HBUF5 : Hid (BufIs (((w4.setCell ⟨gx, 0, none⟩ (.int .i64 rm)).setCell ⟨gx, 1, none⟩ (.slice a3 pr.1.length cap3)).setCell ⟨gx, 2, none⟩ (.int .i64 pr.2)) W.heap.size h rm wait lost) := (HBUF.out.later HB4.out).only HO5.out (fun q hq hs => hgo (by simp at hs; rw [← hs]; exact hq))
          have HB5 : Hid (Below W.heap.size W (((w4.setCell ⟨gx, 0, none⟩ (.int .i64 rm)).setCell ⟨gx, 1, none⟩ (.slice a3 pr.1.length cap3)).setCell ⟨gx, 2, none⟩ (.int .i64 pr.2))) := (HB.out.trans (HB4.out.mono HB.out.size)).trans (HO5.out.below (by have := HB.out.size; omega) (by simp; omega))
          have hs5 : (((w4.setCell ⟨gx, 0, none⟩ (.int .i64 rm)).setCell ⟨gx, 1, none⟩ (.slice a3 pr.1.length cap3)).setCell ⟨gx, 2, none⟩ (.int .i64 pr.2)).heap.size = w4.heap.size := by simp [World.setCell]
          have HS5 := hid hs5
          have HR5 : Hid (RowsOf (fun b => (W.heap.size + 1 ≤ b ∧ b < wr.heap.size ∧ ¬ b ∈ own W.heap.size h ∧ b ≠ gx) ∨ (wr.heap.size ≤ b ∧ b < w3.heap.size ∧ b ≠ gy)) Sp.enc 11 (((w4.setCell ⟨gx, 0, none⟩ (.int .i64 rm)).setCell ⟨gx, 1, none⟩ (.slice a3 pr.1.length cap3)).setCell ⟨gx, 2, none⟩ (.int .i64 pr.2)) (.slice a3 pr.1.length cap3) pr.1) := (HR3'.out.only HB34.out (fun b hb => ⟨by rcases hb with hb | hb <;> omega, by simp; rcases hb with hb | hb <;> omega⟩)).only HO5.out (fun b hb => ⟨by rcases hb with hb | hb <;> omega, by simp; rcases hb with hb | hb <;> omega⟩)
          have d0 : w4.cell? ⟨b, off + k * 12, none⟩ = some (.int .u64 y.sp.hi) := (HB4.out.cell hblt).trans c0
          have d1 : w4.cell? ⟨b, off + k * 12 + 1, none⟩ = some (.int .u64 y.sp.lo) := (HB4.out.cell hblt).trans c1
          have d2 : w4.cell? ⟨b, off + k * 12 + 2, none⟩ = some (.int .u64 y.sp.id) := (HB4.out.cell hblt).trans c2
          have d3 : w4.cell? ⟨b, off + k * 12 + 3, none⟩ = some (.int .u64 y.sp.up) := (HB4.out.cell hblt).trans c3
          have d4 : w4.cell? ⟨b, off + k * 12 + 4, none⟩ = some (.string y.sp.name) := (HB4.out.cell hblt).trans c4
          have d5 : w4.cell? ⟨b, off + k * 12 + 5, none⟩ = some (.int .i64 y.sp.status) := (HB4.out.cell hblt).trans c5
          have d6 : w4.cell? ⟨b, off + k * 12 + 6, none⟩ = some (.int .i64 y.sp.seq) := (HB4.out.cell hblt).trans c6
          have d7 : w4.cell? ⟨b, off + k * 12 + 7, none⟩ = some (.int .i64 y.sp.kids) := (HB4.out.cell hblt).trans c7
          have d8 : w4.cell? ⟨b, off + k * 12 + 8, none⟩ = some (.bool y.sp.shadow) := (HB4.out.cell hblt).trans c8
          have d9 : w4.cell? ⟨b, off + k * 12 + 9, none⟩ = some (.int .i64 y.sp.start) := (HB4.out.cell hblt).trans c9
          have d10 : w4.cell? ⟨b, off + k * 12 + 10, none⟩ = some (.int .i64 y.sp.stop) := (HB4.out.cell hblt).trans c10
          have hne3 : ¬ b = gx := by omega
          have hne4 : ¬ gx = b := by omega
          clear c0 c1 c2 c3 c4 c5 c6 c7 c8 c9 c10 c11
          clear hs5 hr3 HR3' hbel3 hbw3 x0 x1 x2 KEEP HRT
          have HOL : Hid (∀ q, q ∈ own W.heap.size h → q < wr.heap.size) := HBUF.out.lt
          go_wp2_with fail
          refine (put2 W.heap.size h rm wait lost y.sp pr ok _ HBUF5.out HPR.out HOK.out).mono ?_
          rintro e w6 ⟨rfl, ho6, h6, hm6, hb6⟩
          have HBUF6 := hid hb6
          have HX6 := hid (HX5.out.only ho6 hgo)
          have HMV : Hid (∀ q, q ∈ own W.heap.size h6 → q ∈ own W.heap.size h ∨ w4.heap.size ≤ q) := moved_moves hm6 (Nat.le_of_eq HS5.out.symm)
          have HRW6 : Hid (RowsOf (fun b => W.heap.size + 1 ≤ b ∧ b < w6.heap.size ∧ ¬ b ∈ own W.heap.size h6 ∧ b ≠ gx) Sp.enc 11 w6 (.slice a3 pr.1.length cap3) pr.1) := by
            have hs6 := ho6.size
            have hs5 := HS5.out
            have hWr := HB.out.size
            refine (HR5.out.only ho6 (fun b hb => ⟨by rcases hb with hb | hb <;> omega, fun hm => ?_⟩)).imp (fun b hb => ⟨by rcases hb with hb | hb <;> omega, by rcases hb with hb | hb <;> omega, fun hm => ?_, by rcases hb with hb | hb <;> omega⟩)
            · have := HOL.out _ hm
              rcases hb with hb | hb
              · exact hb.2.2.1 hm
              · omega
            · rcases HMV.out _ hm with h9 | h9
              · have := HOL.out _ h9
                rcases hb with hb | hb
                · exact hb.2.2.1 h9
                · omega
              · rcases hb with hb | hb <;> omega
          have hgo6 : gx ∉ own W.heap.size h6 := fun hm => by
            rcases HMV.out _ hm with h9 | h9
            · exact hgo h9
            · omega
          have HB6 : Hid (Below W.heap.size W w6) := HB5.out.trans (HBUF5.out.below ho6)
          clear ho6 hb6 v0 v1 v2 z0 z1 z2 zf0 zf1 zf2 d0 d1 d2 d3 d4 d5 d6 d7 d8 d9 d10 hm6
          have hl7 : pr.1.length ≤ 1000000 := by obtain ⟨_, _, _, _, q, q2, _⟩ := HBUF6.out; omega
          have q1 : w6.cell? ⟨gx, 1, none⟩ = some (.slice a3 pr.1.length cap3) := HX6.out.cell 1
          have q2 : w6.cell? ⟨gx, 2, none⟩ = some (.int .i64 pr.2) := HX6.out.cell 2
          have hgx7 : gx < w6.heap.size := HX6.out.lt
          have KEEP7 : Hid (∀ w', Below w6.heap.size w6 w' → w'.cell? ⟨gx, 1, none⟩ = some (.slice a3 pr.1.length cap3) ∧ w'.cell? ⟨gx, 2, none⟩ = some (.int .i64 pr.2)) := fun w' hw => ⟨(hw.cell hgx7).trans q1, (hw.cell hgx7).trans q2⟩
          have HM7 : Hid (∀ w', Below w6.heap.size w6 w' → ∃ p : Nat → Prop, (∀ b, p b → b < w'.heap.size) ∧ RowsOf p Sp.enc 11 w' (.slice a3 pr.1.length cap3) pr.1) := fun w' hw => ⟨_, fun b hb => Nat.lt_of_lt_of_le hb.2.1 hw.size, HRW6.out.below hw (fun b hb => hb.2.1)⟩
          go_wp2_with fail
          go_region_held3 (fun w' => w'.cell? ⟨gx, 1, none⟩ = some (.slice a3 pr.1.length cap3) ∧ w'.cell? ⟨gx, 2, none⟩ = some (.int .i64 pr.2))
            (first | exact KEEP7.out _ hc9 | exact KEEP7.out _ hc8 | exact KEEP7.out _ (Below.refl _ _).drew)
            ((first
              | (go_at_call 54; refine (all_any W.heap.size h6 rm pr.1 pr.2 _ HBUF6.out.drew).mono ?_; rintro e8 w8 ⟨a8, cap8, rfl, hbel8, hr8⟩; have hc8 : Below w6.heap.size w6 w8 := drewL hbel8)
              | (go_at_call 50; refine (same_list _ _ pr.1 _ ⟨_, fun b hb => hb.2, hr8.out⟩ (HM7.out _ hc8) hl7).mono ?_; rintro e9 w9 ⟨rfl, hbel9⟩; have hc9 : Below w6.heap.size w6 w9 := hc8.trans (hbel9.mono hc8.size))
              | (go_at_call 55; refine (len_any W.heap.size h6 rm pr.1 pr.2 _ (HBUF6.out.later hc9)).mono ?_; rintro e w' ⟨rfl, rfl⟩)
              | (go_at_call 56; refine (lost_any W.heap.size h6 rm pr.1 pr.2 _ (HBUF6.out.later hc9)).mono ?_; rintro e w' ⟨rfl, rfl⟩)))
          have HB9 : Hid (Below W.heap.size W w9) := HB6.out.trans (hc9.mono HB6.out.size)
          have HQ9 : Hid (PlayQ (W.heap.size + 1) W.heap.size gx rm w9) := ⟨⟨h6, pr.1, pr.2, a3, cap3, HBUF6.out.later hc9, HX6.out.later hc9, (HRW6.out.below hc9 (fun b hb => hb.2.1)).imp (fun b hb => ⟨hb.1, Nat.lt_of_lt_of_le hb.2.1 hc9.size, hb.2.2⟩), hgo6⟩, hgB⟩
          clear hc8 hc9 hbel8 hbel9 hr8 q1 q2 KEEP7 HM7
          go_wp2_with fail
          go_roundw
          case rel => exact ⟨k + 1, by omega, by go_num, HB9.out, HQ9.out⟩
          case measure => simp [intOf]; omega
    · obtain rfl : k = l.length := by omega
      go_wp2_with fail
      refine (known_any _).mono ?_
      rintro e w3 ⟨rfl, hb3⟩
      have HB3 := hid (HB.out.trans (hb3.mono HB.out.size))
      clear hb3
      go_wp2_with fail
      go_ret
      exact ⟨rfl, HB3.out⟩

set_option maxRecDepth 100000 in
theorem plays_bad (room : Int) (v : Value) (l : List Mv) (W : World) (h : RowsOf (· < W.heap.size) Mv.enc 12 W v l) (hl : 300 < l.length) :
    Calls Try.prog 12 #[.int .i64 room, v] W fun e w' => e = .returned (.bool true) ∧ Below W.heap.size W w' := by
  obtain ⟨a, cap, rfl, hlc, hcm, _⟩ := h
  have h1' : (300 : Int) < (l.length : Int) := by omega
  go_enter Try.func12, Try.ntmps12
  go_wp2_with fail
  refine (known_any _).mono ?_
  rintro e w1 ⟨rfl, hb1⟩
  go_wp2_with fail
  go_ret
  exact ⟨rfl, hb1⟩
end C25
end Go.Proofs.Ytefaegoajjcfjaa
