/- Walks of layer 22 (wheel): the law that what is on it, and what is due, is what the document says; no condition. -/
import Derived.Test.YthmopkaecbebpaaS22
import Derived.Test.YthmopkaecbebpaaH22
import Derived.Test.YthmopkaecbebpaaA22
import Derived.Deep.RegionHeld3
import Derived.Deep.DeepCutAuto
namespace Go.Proofs.Ythmopkaecbebpaa
open Go.RowKit Go.Peri
namespace C22
/-- A wheel, and the document's in block gx. -/
structure Play (W w : World) (gx n : Nat) (F : List Nat) (L : List Du) (v : Value) : Prop where
  bel : Below W.heap.size W w
  wh : WhIs w W.heap.size F n L
  blk : Blk w gx #[.int .i64 n, v] 28
  rows : RowsOf (fun b => b < w.heap.size ∧ b ∉ F ∧ b ≠ gx) Du.enc 2 w v L
  gxl : W.heap.size < gx
  gxo : gx ∉ F
theorem Play.later {W w w' : World} {gx n : Nat} {F : List Nat} {L : List Du} {v : Value} (h : Play W w gx n F L v) (hb : Below w.heap.size w w') : Play W w' gx n F L v :=
  ⟨h.bel.trans (hb.mono h.bel.size), h.wh.later hb, h.blk.later hb, (h.rows.below hb (fun b hb => hb.1)).imp (fun b hq => ⟨Nat.lt_of_lt_of_le hq.1 hb.size, hq.2⟩), h.gxl, h.gxo⟩
def PlayQ (W w : World) (gx k : Nat) : Prop := ∃ n F L a cap, n ≤ k ∧ Play W w gx n F L (.slice a L.length cap)
def SortQ (n : Nat) (l : List Du) (w : World) (e : Ending) (w' : World) : Prop :=
  ∃ a cap, e = .returned (.slice a (Wh.sorted n l 50).length cap) ∧ Below w.heap.size w w' ∧ Hid (RowsOf (fun b => w.heap.size ≤ b ∧ b < w'.heap.size) Du.enc 2 w' (.slice a (Wh.sorted n l 50).length cap) (Wh.sorted n l 50))
/-- Behind the document's Set. -/
def SetCut (wr : World) (F : List Nat) (gx n : Nat) (L : List Du) (x : Int) (s8 s9 : Value) (wx : World) : Prop :=
  ∃ gy a cap, s8 = .pointer (some ⟨gy, 0, none⟩) ∧ s9 = .int .i64 x ∧ wr.heap.size ≤ gy ∧ Below wr.heap.size wr wx ∧ Blk wx gy #[.int .i64 n, .slice a L.length cap] 28 ∧
    Hid (RowsOf (fun b => b < wx.heap.size ∧ b ≠ gy ∧ b ≠ gx ∧ b ∉ F) Du.enc 2 wx (.slice a L.length cap) L)
theorem plays_bad (v : Value) (l : List Wm) (W : World) (h : RowsOf (· < W.heap.size) Wm.enc 2 W v l) (hb : 300 < l.length) :
    Calls Try.prog 3 #[v] W fun e w' => e = .returned (.bool true) ∧ Below W.heap.size W w' := by
  obtain ⟨a, cap, rfl, _⟩ := h
  have g1 : (300 : Int) < (l.length : Int) := by omega
  go_enter Try.func3, Try.ntmps3
  go_wp2_with fail
  refine (known_any _).mono ?_
  rintro e w1 ⟨rfl, hb1⟩
  go_wp2_with fail
  go_ret
  exact ⟨rfl, hb1⟩
set_option maxRecDepth 100000 in
set_option maxHeartbeats 4000000 in
theorem plays_good (v : Value) (l : List Wm) (W : World) (h : RowsOf (· < W.heap.size) Wm.enc 2 W v l) (hl : l.length ≤ 300) :
    Calls Try.prog 3 #[v] W fun e w' => e = .returned (.bool true) ∧ Below W.heap.size W w' := by
  obtain ⟨a, cap, rfl, hlc, hcm, _, hcell⟩ := h
  have HC := hid hcell
  have g1 : ¬ (300 : Int) < (l.length : Int) := by omega
  clear hcell hcm
  go_enter Try.func3, Try.ntmps3
  go_wp2_with fail
  refine (new_any W).mono ?_
  rintro e w1 ⟨rfl, hb1, hs1, hw1⟩
  have HB1 := hid hb1
  have HS1 := hid hs1
  clear hb1 hs1
  go_upto_region 5 with fail
  refine wpGen ?_
  intro w0 hw0
  obtain ⟨gx, hgx⟩ : ∃ g, g = w1.heap.size := ⟨_, rfl⟩
  rw [← hgx]
  have HQ0 : Hid (PlayQ W w0 gx 0) := by
    refine ⟨0, [W.heap.size], [], none, 0, Nat.le_refl _, ?_⟩
    have hb : Below w1.heap.size w1 w0 := by rw [hw0]; go_grown
    refine ⟨HB1.out.trans (hb.mono (by have := HS1.out; omega)), hw1.out.later hb, by rw [hw0, hgx]; exact Blk.new _ _ _, RowsOf.nil _ _ _ _, by have := HS1.out; omega, by have := HS1.out; simp; omega⟩
  clear hw0 hgx HB1 HS1 hw1
  go_wp2_with fail
  go_loopw [5] (fun ix wr => ∃ k : Nat, k ≤ l.length ∧ ix = .int .i64 k ∧ PlayQ W wr gx k) (fun ix _ => l.length - (intOf ix).toNat)
  case atStart => exact ⟨0, Nat.zero_le _, rfl, HQ0.out⟩
  case round =>
    obtain ⟨k, hk, rfl, hq⟩ := hrel
    obtain ⟨n, F, L, ax, capx, hn, hp⟩ := hq
    have HP := hid hp
    have hWr := hp.bel.size
    have x0 : wr.cell? ⟨gx, 0, none⟩ = some (.int .i64 n) := hp.blk.cell 0
    have x1 : wr.cell? ⟨gx, 1, none⟩ = some (.slice ax L.length capx) := hp.blk.cell 1
    have hgxl := hp.blk.lt
    have hL32 := hp.wh.inv.len
    have hgw := hp.gxl
    clear hp HQ0
    by_cases hlt : k < l.length
    · obtain ⟨b, off, rfl, hpb, hc⟩ := HC.out.resolve_left (by intro e; rw [e] at hlt; simp at hlt)
      obtain ⟨y0, y1⟩ := Wm.cells (fun j u hu => (HP.out.bel.cell (p := ⟨b, off + k * 2 + j, none⟩) hpb).trans (hc k hlt j u hu))
      have hbl : b < wr.heap.size := by omega
      clear hc
      generalize l[k] = y at y0 y1
      obtain ⟨id, tk⟩ := y
      simp only at y0 y1
      have KEEPA : Hid (∀ w', Below W.heap.size W w' → w'.cell? ⟨b, off + k * 2, none⟩ = some (.int .i64 id) ∧ w'.cell? ⟨b, off + k * 2 + 1, none⟩ = some (.int .i64 tk)) := fun w' hw => ⟨(hw.cell hpb).trans ((HP.out.bel.cell hpb).symm.trans y0), (hw.cell hpb).trans ((HP.out.bel.cell hpb).symm.trans y1)⟩
      by_cases hz : tk = 0
      · subst hz
        obtain ⟨d, hd⟩ : ∃ d, d = Wh.due n L := ⟨_, rfl⟩
        obtain ⟨r, hr⟩ : ∃ r, r = Wh.rest n L := ⟨_, rfl⟩
        have CR := hid (rstep_any n (.slice ax L.length capx) L wr HP.out.rows (fun b hb => hb.1) (by omega) hL32)
        have CW : Hid (∀ w', WhIs w' W.heap.size F n L → _) := fun w' (hw : WhIs w' W.heap.size F n L) => step_v W.heap.size n F L r d w' hw (by omega) hd.symm hr.symm
        have hdl : d.length ≤ 32 := by have := Wh.rest_len n L; rw [← hd] at this; omega
        rw [← hd, ← hr] at CR
        clear hd hr
        go_wp2_with fail
        refine CR.out.mono ?_
        rintro e w3 ⟨a3, cap3, a4, cap4, rfl, hb3, hr3, hr4⟩
        go_upto_region 10 with fail
        refine wpGen ?_
        intro w4 hw4
        obtain ⟨gy, hgy⟩ : ∃ g, g = w3.heap.size := ⟨_, rfl⟩
        rw [← hgy]
        have hO4 : Only [gy] w3 w4 := by rw [hw4]; exact (Only.refl _ _).alloc _
        have HY4 : Hid (Blk w4 gy #[.int .i64 ((n : Int) + 1), .slice a4 r.length cap4] 28) := by show Blk _ _ _ _; rw [hw4, hgy]; exact Blk.new _ _ _
        have hb4 : Below wr.heap.size wr w4 := hb3.trans (by rw [hw4]; exact (Below.refl _ _).alloc hb3.size _)
        have hgy1 : wr.heap.size ≤ gy := by rw [hgy]; exact hb3.size
        have hgy2 : w3.heap.size ≤ gy := by omega
        have hs34 := hO4.size
        have HB4 := hid hb4
        have HO4 := hid hO4
        clear hw4 hgy hb4 hO4 hb3 x0 x1 y0 y1
        have HX4 : Hid (Blk w4 gx #[.int .i64 n, .slice ax L.length capx] 28) := HP.out.blk.later HB4.out
        have v0 : w4.cell? ⟨gy, 0, none⟩ = some (.int .i64 ((n : Int) + 1)) := HY4.out.cell 0
        have v1 : w4.cell? ⟨gy, 1, none⟩ = some (.slice a4 r.length cap4) := HY4.out.cell 1
        have z0 : w4.cell? ⟨gx, 0, none⟩ = some (.int .i64 n) := HX4.out.cell 0
        have z1 : w4.cell? ⟨gx, 1, none⟩ = some (.slice ax L.length capx) := HX4.out.cell 1
        have zf0 := HX4.out.free 0
        have zf1 := HX4.out.free 1
        go_upto_region 11 with fail
        refine wpGen ?_
        intro w5 hw5
        have HO5 : Hid (Only [gx] w4 w5) := by show Only _ _ _; rw [hw5]; exact ((Only.refl _ _).setCell (by simp) _).setCell (by simp) _
        have HX5 : Hid (Blk w5 gx #[.int .i64 ((n : Int) + 1), .slice a4 r.length cap4] 28) := by show Blk _ _ _ _; rw [hw5]; exact (HX4.out.set 0 _).set 1 _
        have hs5 : w4.heap.size ≤ w5.heap.size := HO5.out.size
        have hs4 := HB4.out.size
        clear hw5 v0 v1 z0 z1 zf0 zf1
        have HW5 : Hid (WhIs w5 W.heap.size F n L) := (HP.out.wh.later HB4.out).only HO5.out (fun q hq hs => HP.out.gxo (by simp at hs; rw [← hs]; exact hq))
        have HB5 : Hid (Below W.heap.size W w5) := (HP.out.bel.trans (HB4.out.mono hWr)).trans (HO5.out.below (by omega) (by simp; omega))
        have HR3 : Hid (RowsOf (fun b => wr.heap.size ≤ b ∧ b < w3.heap.size) ie 1 w5 (.slice a3 d.length cap3) d) := (hr3.out.only HO4.out (fun b hb => ⟨hb.2, by simp; omega⟩)).only HO5.out (fun b hb => ⟨by omega, by simp; omega⟩)
        have HR4 : Hid (RowsOf (fun b => wr.heap.size ≤ b ∧ b < w3.heap.size) Du.enc 2 w5 (.slice a4 r.length cap4) r) := (hr4.out.only HO4.out (fun b hb => ⟨hb.2, by simp; omega⟩)).only HO5.out (fun b hb => ⟨by omega, by simp; omega⟩)
        clear hr3 hr4
        go_wp2_with fail
        refine (CW.out w5 HW5.out).mono ?_
        rintro e w6 ⟨a6, cap6, rfl, ho6, F7, hm6, hwh6, hr6⟩
        have hs6 := ho6.size
        have HFR : Hid (∀ q, q ∈ F → q < wr.heap.size) := fun q hq => (HP.out.wh.bd q hq).2
        have HF7 : Hid (∀ q, q ∈ F7 → q ∈ F ∨ w5.heap.size ≤ q) := fun q hq => hm6.out q hq
        have HP6 : Hid (Play W w6 gx (n + 1) F7 r (.slice a4 r.length cap4)) := by
          refine ⟨HB5.out.trans (HW5.out.below ho6), hwh6.out, ?_, ?_, hgw, ?_⟩
          · exact HX5.out.only ho6 HP.out.gxo
          · refine (HR4.out.only ho6 (fun b hb => ⟨by omega, fun hf => by have := HFR.out b hf; omega⟩)).imp (fun b hb => ⟨by omega, fun hf => ?_, by omega⟩)
            rcases HF7.out b hf with h1 | h1
            · have := HFR.out b h1; omega
            · omega
          · intro hf
            rcases HF7.out gx hf with h1 | h1
            · exact HP.out.gxo h1
            · omega
        have HR6 : Hid (RowsOf (fun b => wr.heap.size ≤ b ∧ b < w3.heap.size) ie 1 w6 (.slice a3 d.length cap3) d) := HR3.out.only ho6 (fun b hb => ⟨by omega, fun hf => by have := HFR.out b hf; omega⟩)
        clear ho6 hm6 hwh6
        go_wp2_with fail
        refine (ints_any _ _ d d true w6 hr6.out (fun b hb => hb.2.1) HR6.out (fun b hb => by omega) (by omega) (by omega) (by simp)).mono ?_
        rintro e w7 ⟨rfl, hb7⟩
        have HP7 : Hid (Play W w7 gx (n + 1) F7 r (.slice a4 r.length cap4)) := HP6.out.later hb7
        obtain ⟨n7, hn7⟩ : ∃ m : Nat, m = n + 1 := ⟨_, rfl⟩
        have hnk : n7 ≤ k + 1 := by omega
        rw [← hn7] at HP7
        clear hn7 hb7 hr6 HR6 HP6 HF7 HFR HR3 HR4 HB5 HW5 HX5 HO5 HX4 HB4 HO4 HY4 CR CW HP hs5 hs6
        obtain ⟨L7, hL7e⟩ : ∃ x, x = r := ⟨_, rfl⟩
        subst hL7e
        obtain ⟨a7, ha7⟩ : ∃ x, x = a4 := ⟨_, rfl⟩
        subst ha7
        obtain ⟨cap7, hcap7⟩ : ∃ x, x = cap4 := ⟨_, rfl⟩
        subst hcap7
        have HNX := hid HP7.out.gxo
        have q0 : w7.cell? ⟨gx, 0, none⟩ = some (.int .i64 n7) := HP7.out.blk.cell 0
        have q1 : w7.cell? ⟨gx, 1, none⟩ = some (.slice a7 L7.length cap7) := HP7.out.blk.cell 1
        have hgl7 := HP7.out.blk.lt
        have KEEP7 : Hid (∀ w', Below w7.heap.size w7 w' → w'.cell? ⟨gx, 0, none⟩ = some (.int .i64 n7) ∧ w'.cell? ⟨gx, 1, none⟩ = some (.slice a7 L7.length cap7)) := fun w' hw => ⟨(hw.cell hgl7).trans q0, (hw.cell hgl7).trans q1⟩
        have hL7 : L7.length ≤ 32 := HP7.out.wh.inv.len
        have hS7 : (Wh.sorted n7 L7 50).length ≤ 1000000000000 := Nat.le_trans (Wh.sorted_len (n := n7) (l := L7) 50) (by omega)
        have CL : Hid (∀ w', Below w7.heap.size w7 w' → Calls Try.prog 24 #[.pointer (some ⟨W.heap.size, 0, none⟩)] w' fun e w'' => e = .returned (.int .i64 L7.length) ∧ w' = w'') := fun w' hw => len_any _ n7 F7 L7 w' (HP7.out.wh.later hw)
        have CN : Hid (∀ w', Below w7.heap.size w7 w' → Calls Try.prog 25 #[.pointer (some ⟨W.heap.size, 0, none⟩)] w' fun e w'' => e = .returned (.int .i64 n7) ∧ w' = w'') := fun w' hw => now_any _ n7 F7 L7 w' (HP7.out.wh.later hw)
        have CA : Hid (∀ w', Below w7.heap.size w7 w' → Calls Try.prog 27 #[.pointer (some ⟨W.heap.size, 0, none⟩)] w' (SortQ n7 L7 w')) := fun w' hw => all_any _ n7 F7 L7 w' (HP7.out.wh.later hw) (by omega)
        have CS : Hid (∀ w', Below w7.heap.size w7 w' → Calls Try.prog 28 #[.agg #[.int .i64 n7, .slice a7 L7.length cap7]] w' (SortQ n7 L7 w')) := fun w' hw => sorted_any n7 _ L7 w' (HP7.out.rows.below hw (fun b hb => hb.1)) (fun b hb => Nat.lt_of_lt_of_le hb.1 hw.size) (by omega) hL7
        clear hgl7
        obtain ⟨s7, hs7⟩ : ∃ s, s = (Wh.sorted n7 L7 50) := ⟨_, rfl⟩
        rw [← hs7] at hS7
        unfold SortQ at CA CS
        simp only [← hs7] at CA CS
        clear hs7
        go_wp2_with fail
        go_region_held3 (fun w' => w'.cell? ⟨gx, 0, none⟩ = some (.int .i64 n7) ∧ w'.cell? ⟨gx, 1, none⟩ = some (.slice a7 L7.length cap7))
          (first | exact KEEP7.out _ hc10 | exact KEEP7.out _ hc9 | exact KEEP7.out _ hc8 | exact KEEP7.out _ (Below.refl _ _).drew)
          ((first
            | (go_at_call 24; (with_reducible refine (CL.out _ (Below.refl _ _).drew).mono ?_); rintro e w' ⟨rfl, rfl⟩)
            | (go_at_call 25; (with_reducible refine (CN.out _ (Below.refl _ _).drew).mono ?_); rintro e w' ⟨rfl, rfl⟩)
            | (go_at_call 27; (with_reducible refine (CA.out _ (Below.refl _ _).drew).mono ?_); rintro e8 w8 ⟨a8, cap8, rfl, hb8, hr8⟩; have hc8 : Below w7.heap.size w7 w8 := drewL hb8)
            | (go_at_call 28; (with_reducible refine (CS.out _ hc8).mono ?_); rintro e9 w9 ⟨a9, cap9, rfl, hb9, hr9⟩; have hc9 : Below w7.heap.size w7 w9 := hc8.trans (hb9.mono hc8.size))
            | (go_at_call 26; (with_reducible refine (same_any _ _ s7 s7 true _ (hr8.out.below hb9 (fun b hb => hb.2)) (fun b hb => Nat.lt_of_lt_of_le hb.2 hb9.size) hr9.out (fun b hb => hb.2) hS7 hS7 (by simp)).mono ?_); rintro e10 w10 ⟨rfl, hb10⟩; have hc10 : Below w7.heap.size w7 w10 := hc9.trans (hb10.mono hc9.size))))
        have HP10 : Hid (Play W w10 gx n7 F7 L7 (.slice a7 L7.length cap7)) := HP7.out.later hc10
        clear hc8 hc9 hc10 hb8 hb9 hb10 hr8 hr9 KEEP7 CL CN CA CS HP7 q0 q1
        go_wp2_with fail
        go_roundw
        case rel => exact ⟨k + 1, by omega, by go_num, n7, F7, L7, a7, cap7, hnk, HP10.out⟩
        case measure => simp [intOf]; omega
      · have hz2 : (tk == 0) = false := by simpa using hz
        obtain ⟨x, hx⟩ : ∃ x, Wh.setE L tk = x := ⟨_, rfl⟩
        obtain ⟨L7, hL7e⟩ : ∃ x, Wh.setL n L id tk = x := ⟨_, rfl⟩
        have CR : Hid (∀ w', Below wr.heap.size wr w' → Calls Try.prog 22 #[.agg #[.int .i64 n, .slice ax L.length capx], .int .i64 id, .int .i64 tk] w' (RSetQ (fun b => b < wr.heap.size ∧ b ∉ F ∧ b ≠ gx) w' n L7 x)) := fun w' hw => rset_any n _ L id tk x L7 w' (HP.out.rows.below hw (fun b hb => hb.1)) (fun b hb => Nat.lt_of_lt_of_le hb.1 hw.size) (by omega) hx hL7e
        have CW : Hid (∀ w', WhIs w' W.heap.size F n L → _) := fun w' (hw : WhIs w' W.heap.size F n L) => set_v W.heap.size n F L L7 id tk x w' hw (by omega) hx hL7e
        have KEEPX : Hid (∀ w', Below wr.heap.size wr w' → w'.cell? ⟨gx, 0, none⟩ = some (.int .i64 n) ∧ w'.cell? ⟨gx, 1, none⟩ = some (.slice ax L.length capx) ∧ w'.cell? ⟨b, off + k * 2, none⟩ = some (.int .i64 id) ∧ w'.cell? ⟨b, off + k * 2 + 1, none⟩ = some (.int .i64 tk)) := fun w' hw => ⟨(hw.cell hgxl).trans x0, (hw.cell hgxl).trans x1, (hw.cell hbl).trans y0, (hw.cell hbl).trans y1⟩
        have HFR : Hid (∀ q, q ∈ F → q < wr.heap.size) := fun q hq => (HP.out.wh.bd q hq).2
        clear hx hL7e
        go_upto_region 13 with fail
        go_cut [8, 9] (fun s8 s9 wx => SetCut wr F gx n L7 x s8 s9 wx)
        case first =>
          go_region_held3 (fun w' => w'.cell? ⟨gx, 0, none⟩ = some (.int .i64 n) ∧ w'.cell? ⟨gx, 1, none⟩ = some (.slice ax L.length capx) ∧ w'.cell? ⟨b, off + k * 2, none⟩ = some (.int .i64 id) ∧ w'.cell? ⟨b, off + k * 2 + 1, none⟩ = some (.int .i64 tk))
            (first
              | exact KEEPX.out _ hc3
              | exact KEEPX.out _ (hc3.alloc hc3.size _)
              | exact KEEPX.out _ (Below.refl _ _).drew
              | exact KEEPX.out _ ((Below.refl _ _).alloc (Nat.le_refl _) _).drew
              | exact KEEPX.out _ ((hc3.setCell (by simp) _).setCell (by simp) _)
              | go_keep)
            ((first
              | (go_at_call 22; (with_reducible refine (CR.out _ (Below.refl _ _).drew).mono ?_); rintro e3 w3 ⟨a3, cap3, rfl, hb3, hr3⟩; have hc3 : Below wr.heap.size wr w3 := drewL hb3)
              | (go_at_call 22; (with_reducible refine (CR.out _ ((Below.refl _ _).alloc (Nat.le_refl _) _).drew).mono ?_); rintro e3 w3 ⟨a3, cap3, rfl, hb3, hr3⟩; have hc3 : Below wr.heap.size wr w3 := ((Below.refl _ _).alloc (Nat.le_refl _) _).drew.trans (hb3.mono (by simp)); have hk3 : Blk w3 wr.heap.size #[.int .i64 0, .slice none 0 0] 28 := (Blk.new wr _ 28).drew.later hb3; have t0 : w3.cell? ⟨wr.heap.size, 0, none⟩ = some (.int .i64 0) := hk3.cell 0; have t1 : w3.cell? ⟨wr.heap.size, 1, none⟩ = some (.slice none 0 0) := hk3.cell 1; have tf0 := hk3.free 0; have tf1 := hk3.free 1; have HK3 := hid hk3; clear hk3)))
          · go_wp2_with fail
            go_meet
            case rel =>
              have hs3 := hc3.size
              refine ⟨w3.heap.size, a3, cap3, rfl, rfl, hs3, hc3.alloc hs3 _, Blk.new _ _ _, (hr3.out.below (B := w3.heap.size) ((Below.refl _ _).alloc (Nat.le_refl _) _) (fun b hb => ?_)).imp (fun b hb => ?_)⟩
              · have hw3 : (wr.drew).heap.size ≤ w3.heap.size := hb3.size
                rcases hb with hb | hb
                · omega
                · exact hb.2
              · have hw3 : (wr.drew).heap.size = wr.heap.size := rfl
                rcases hb with hb | hb
                · exact ⟨by simp; omega, by omega, hb.2.2, hb.2.1⟩
                · exact ⟨by simp; omega, by omega, by omega, fun hf => by have := HFR.out b hf; omega⟩
          · go_wp2_with fail
            go_meet
            case rel =>
              have hs3 := hc3.size
              have hO : Only [wr.heap.size] w3 ((w3.setCell ⟨wr.heap.size, 0, none⟩ (.int .i64 n)).setCell ⟨wr.heap.size, 1, none⟩ (.slice a3 L7.length cap3)) := ((Only.refl _ _).setCell (by simp) _).setCell (by simp) _
              refine ⟨wr.heap.size, a3, cap3, rfl, rfl, Nat.le_refl _, hc3.trans (hO.below hs3 (by simp)), (HK3.out.set 0 _).set 1 _, (hr3.out.only hO (fun b hb => ?_)).imp (fun b hb => ?_)⟩
              · have hw3 : wr.heap.size + 1 ≤ w3.heap.size := by have := hb3.size; simpa using this
                rcases hb with hb | hb
                · exact ⟨by omega, by simp; omega⟩
                · have h1 := hb.1
                  simp at h1
                  exact ⟨hb.2, by simp; omega⟩
              · have hsz := hO.size
                rcases hb with hb | hb
                · exact ⟨by omega, by omega, hb.2.2, hb.2.1⟩
                · have h1 := hb.1
                  simp at h1
                  exact ⟨by omega, by omega, by omega, fun hf => by have := HFR.out b hf; omega⟩
        case rest =>
        obtain ⟨gy, a7, cap7, rfl, rfl, hgy, hb4, hy4, hr4⟩ := hcut
        have HB4 := hid hb4
        have HY4 := hid hy4
        have HX4 : Hid (Blk wc gx #[.int .i64 n, .slice ax L.length capx] 28) := HP.out.blk.later hb4
        have hs4 := hb4.size
        clear hb4 hy4 x0 x1 y0 y1 CR KEEPX
        have v0 : wc.cell? ⟨gy, 0, none⟩ = some (.int .i64 n) := HY4.out.cell 0
        have v1 : wc.cell? ⟨gy, 1, none⟩ = some (.slice a7 L7.length cap7) := HY4.out.cell 1
        have z0 : wc.cell? ⟨gx, 0, none⟩ = some (.int .i64 n) := HX4.out.cell 0
        have z1 : wc.cell? ⟨gx, 1, none⟩ = some (.slice ax L.length capx) := HX4.out.cell 1
        have zf0 := HX4.out.free 0
        have zf1 := HX4.out.free 1
        go_upto_region 15 with fail
        refine wpGen ?_
        intro w5 hw5
        have HO5 : Hid (Only [gx] wc w5) := by show Only _ _ _; rw [hw5]; exact ((Only.refl _ _).setCell (by simp) _).setCell (by simp) _
        have HX5 : Hid (Blk w5 gx #[.int .i64 n, .slice a7 L7.length cap7] 28) := by show Blk _ _ _ _; rw [hw5]; exact (HX4.out.set 0 _).set 1 _
        have hs5 : wc.heap.size ≤ w5.heap.size := HO5.out.size
        have hs5' : w5.heap.size ≤ wc.heap.size := by rw [hw5]; simp [World.setCell]
        clear hw5 v0 v1 z0 z1 zf0 zf1
        have HW5 : Hid (WhIs w5.drew W.heap.size F n L) := ((HP.out.wh.later HB4.out).only HO5.out (fun q hq hs => HP.out.gxo (by simp at hs; rw [← hs]; exact hq))).later (Below.refl _ _).drew
        have HB5 : Hid (Below W.heap.size W w5.drew) := ((HP.out.bel.trans (HB4.out.mono hWr)).trans (HO5.out.below (by omega) (by simp; omega))).drew
        have HR5 : Hid (RowsOf (fun b => b < w5.heap.size ∧ b ≠ gy ∧ b ≠ gx ∧ b ∉ F) Du.enc 2 w5 (.slice a7 L7.length cap7) L7) := (hr4.out.only HO5.out (fun b hb => ⟨hb.1, by simp; exact hb.2.2.1⟩)).imp (fun b hb => ⟨by omega, hb.2⟩)
        clear hr4
        have u0 := (KEEPA.out w5.drew HB5.out).1
        have u1 := (KEEPA.out w5.drew HB5.out).2
        simp only [World.cell?_drew] at u0 u1
        go_region_held3 (fun w' => w'.cell? ⟨b, off + k * 2, none⟩ = some (.int .i64 id) ∧ w'.cell? ⟨b, off + k * 2 + 1, none⟩ = some (.int .i64 tk))
          (first | exact KEEPA.out _ hc6 | exact KEEPA.out _ HB5.out)
          ((go_at_call 23; (with_reducible refine (CW.out _ HW5.out).mono ?_); rintro e7 w7 ⟨rfl, ho6, F7, hm6, hwh6⟩; have hc6 : Below W.heap.size W w7 := HB5.out.trans (HW5.out.below ho6)))
        have hs6 : w5.heap.size ≤ w7.heap.size := ho6.size
        have HF7 : Hid (∀ q, q ∈ F7 → q ∈ F ∨ w5.heap.size ≤ q) := fun q hq => hm6.out q hq
        have HP7 : Hid (Play W w7 gx n F7 L7 (.slice a7 L7.length cap7)) := by
          refine ⟨hc6, hwh6.out, ?_, ?_, hgw, ?_⟩
          · exact HX5.out.drew.only ho6 HP.out.gxo
          · refine (RowsOf.only (w := w5.drew) HR5.out ho6 (fun b hb => ⟨hb.1, hb.2.2.2⟩)).imp (fun b hb => ⟨by omega, fun hf => ?_, hb.2.2.1⟩)
            rcases HF7.out b hf with h1 | h1
            · exact hb.2.2.2 h1
            · omega
          · intro hf
            rcases HF7.out gx hf with h1 | h1
            · exact HP.out.gxo h1
            · omega
        obtain ⟨n7, hn7⟩ : ∃ m : Nat, m = n := ⟨_, rfl⟩
        have hnk : n7 ≤ k + 1 := by omega
        rw [← hn7] at HP7
        clear hn7 hc6 ho6 hm6 hwh6 HF7 HR5 HB5 HW5 HX5 HO5 HX4 HB4 HY4 CW HP hs5 hs5' hs6 u0 u1 KEEPA HFR
        have HNX := hid HP7.out.gxo
        have q0 : w7.cell? ⟨gx, 0, none⟩ = some (.int .i64 n7) := HP7.out.blk.cell 0
        have q1 : w7.cell? ⟨gx, 1, none⟩ = some (.slice a7 L7.length cap7) := HP7.out.blk.cell 1
        have hgl7 := HP7.out.blk.lt
        have KEEP7 : Hid (∀ w', Below w7.heap.size w7 w' → w'.cell? ⟨gx, 0, none⟩ = some (.int .i64 n7) ∧ w'.cell? ⟨gx, 1, none⟩ = some (.slice a7 L7.length cap7)) := fun w' hw => ⟨(hw.cell hgl7).trans q0, (hw.cell hgl7).trans q1⟩
        have hL7 : L7.length ≤ 32 := HP7.out.wh.inv.len
        have hS7 : (Wh.sorted n7 L7 50).length ≤ 1000000000000 := Nat.le_trans (Wh.sorted_len (n := n7) (l := L7) 50) (by omega)
        have CL : Hid (∀ w', Below w7.heap.size w7 w' → Calls Try.prog 24 #[.pointer (some ⟨W.heap.size, 0, none⟩)] w' fun e w'' => e = .returned (.int .i64 L7.length) ∧ w' = w'') := fun w' hw => len_any _ n7 F7 L7 w' (HP7.out.wh.later hw)
        have CN : Hid (∀ w', Below w7.heap.size w7 w' → Calls Try.prog 25 #[.pointer (some ⟨W.heap.size, 0, none⟩)] w' fun e w'' => e = .returned (.int .i64 n7) ∧ w' = w'') := fun w' hw => now_any _ n7 F7 L7 w' (HP7.out.wh.later hw)
        have CA : Hid (∀ w', Below w7.heap.size w7 w' → Calls Try.prog 27 #[.pointer (some ⟨W.heap.size, 0, none⟩)] w' (SortQ n7 L7 w')) := fun w' hw => all_any _ n7 F7 L7 w' (HP7.out.wh.later hw) (by omega)
        have CS : Hid (∀ w', Below w7.heap.size w7 w' → Calls Try.prog 28 #[.agg #[.int .i64 n7, .slice a7 L7.length cap7]] w' (SortQ n7 L7 w')) := fun w' hw => sorted_any n7 _ L7 w' (HP7.out.rows.below hw (fun b hb => hb.1)) (fun b hb => Nat.lt_of_lt_of_le hb.1 hw.size) (by omega) hL7
        clear hgl7
        obtain ⟨s7, hs7⟩ : ∃ s, s = (Wh.sorted n7 L7 50) := ⟨_, rfl⟩
        rw [← hs7] at hS7
        unfold SortQ at CA CS
        simp only [← hs7] at CA CS
        clear hs7
        go_wp2_with fail
        go_region_held3 (fun w' => w'.cell? ⟨gx, 0, none⟩ = some (.int .i64 n7) ∧ w'.cell? ⟨gx, 1, none⟩ = some (.slice a7 L7.length cap7))
          (first | exact KEEP7.out _ hc10 | exact KEEP7.out _ hc9 | exact KEEP7.out _ hc8 | exact KEEP7.out _ (Below.refl _ _).drew)
          ((first
            | (go_at_call 24; (with_reducible refine (CL.out _ (Below.refl _ _).drew).mono ?_); rintro e w' ⟨rfl, rfl⟩)
            | (go_at_call 25; (with_reducible refine (CN.out _ (Below.refl _ _).drew).mono ?_); rintro e w' ⟨rfl, rfl⟩)
            | (go_at_call 27; (with_reducible refine (CA.out _ (Below.refl _ _).drew).mono ?_); rintro e8 w8 ⟨a8, cap8, rfl, hb8, hr8⟩; have hc8 : Below w7.heap.size w7 w8 := drewL hb8)
            | (go_at_call 28; (with_reducible refine (CS.out _ hc8).mono ?_); rintro e9 w9 ⟨a9, cap9, rfl, hb9, hr9⟩; have hc9 : Below w7.heap.size w7 w9 := hc8.trans (hb9.mono hc8.size))
            | (go_at_call 26; (with_reducible refine (same_any _ _ s7 s7 true _ (hr8.out.below hb9 (fun b hb => hb.2)) (fun b hb => Nat.lt_of_lt_of_le hb.2 hb9.size) hr9.out (fun b hb => hb.2) hS7 hS7 (by simp)).mono ?_); rintro e10 w10 ⟨rfl, hb10⟩; have hc10 : Below w7.heap.size w7 w10 := hc9.trans (hb10.mono hc9.size))))
        have HP10 : Hid (Play W w10 gx n7 F7 L7 (.slice a7 L7.length cap7)) := HP7.out.later hc10
        clear hc8 hc9 hc10 hb8 hb9 hb10 hr8 hr9 KEEP7 CL CN CA CS HP7 q0 q1
        go_wp2_with fail
        go_roundw
        case rel => exact ⟨k + 1, by omega, by go_num, n7, F7, L7, a7, cap7, hnk, HP10.out⟩
        case measure => simp [intOf]; omega
    · go_wp2_with fail
      refine (known_any _).mono ?_
      rintro e w3 ⟨rfl, hb3⟩
      go_wp2_with fail
      go_ret
      exact ⟨rfl, HP.out.bel.trans (hb3.mono HP.out.bel.size)⟩
end C22
end Go.Proofs.Ythmopkaecbebpaa
