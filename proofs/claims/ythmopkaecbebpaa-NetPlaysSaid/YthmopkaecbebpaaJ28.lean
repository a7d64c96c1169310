/- Walks of layer 28 (net): the law that what is on its way, and how many were lost, are what the document says; no condition. -/
import Derived.Test.YthmopkaecbebpaaI28
import Derived.Test.YthmopkaecbebpaaH28
import Derived.Test.YthmopkaecbebpaaA28
import Derived.Deep.DeepCutAuto
namespace Go.Proofs.Ythmopkaecbebpaa
open Go.RowKit Go.Peri
namespace C28
/-- A net of one's own, and the document's in block gx. -/
structure Play (W w : World) (gx k : Nat) (F : List Nat) (s : Nt) (a : Option Addr) (cap : Nat) : Prop where
  bel : Below W.heap.size W w
  net : NetIs w W.heap.size F k s
  blk : Blk w gx #[.slice a s.all.length cap, .int .i64 s.next, .int .i64 s.lost] 52
  rows : RowsOf (fun b => b < w.heap.size ∧ b ∉ F ∧ b ≠ gx) Lt.enc 4 w (.slice a s.all.length cap) s.all
  gxl : W.heap.size < gx
  gxo : gx ∉ F
theorem Play.later {W w w' : World} {gx k : Nat} {F : List Nat} {s : Nt} {a : Option Addr} {cap : Nat} (h : Play W w gx k F s a cap) (hb : Below w.heap.size w w') : Play W w' gx k F s a cap :=
  ⟨h.bel.trans (hb.mono h.bel.size), h.net.later hb, h.blk.later hb, (h.rows.below hb (fun b hb => hb.1)).imp (fun b hq => ⟨Nat.lt_of_lt_of_le hq.1 hb.size, hq.2⟩), h.gxl, h.gxo⟩
def PlayQ (W w : World) (gx k : Nat) : Prop := ∃ F s a cap, Play W w gx k F s a cap
/-- Behind a move played. -/
def PlayCut (W : World) (gx k : Nat) (s s' : Nt) (a0 : Option Addr) (cap0 : Nat) (s6 s7 : Value) (wx : World) : Prop :=
  ∃ gy a cap F', s6 = .pointer (some ⟨gy, 0, none⟩) ∧ s7 = .bool true ∧ Below W.heap.size W wx ∧ NetIs wx W.heap.size F' k s' ∧ Blk wx gx #[.slice a0 s.all.length cap0, .int .i64 s.next, .int .i64 s.lost] 52 ∧
    Blk wx gy #[.slice a s'.all.length cap, .int .i64 s'.next, .int .i64 s'.lost] 52 ∧ gy ≠ gx ∧ gx ∉ F' ∧ gy ∉ F' ∧ W.heap.size < gy ∧ Hid (RowsOf (fun b => b < wx.heap.size ∧ b ∉ F' ∧ b ≠ gx ∧ b ≠ gy) Lt.enc 4 wx (.slice a s'.all.length cap) s'.all)
theorem plays_bad (v : Value) (l : List Nm) (W : World) (h : RowsOf (· < W.heap.size) Nm.enc 5 W v l) (hb : 800 < l.length) :
    Calls Try.prog 6 #[v] W fun e w' => e = .returned (.bool true) ∧ Below W.heap.size W w' := by
  obtain ⟨a, cap, rfl, _⟩ := h
  have g1 : (800 : Int) < (l.length : Int) := by omega
  go_enter Try.func6, Try.ntmps6
  go_wp2_with fail
  refine (known_any _).mono ?_
  rintro e w1 ⟨rfl, hb1⟩
  go_wp2_with fail
  go_ret
  exact ⟨rfl, hb1⟩
set_option maxRecDepth 100000 in
set_option maxHeartbeats 4000000 in
theorem plays_good (v : Value) (l : List Nm) (W : World) (h : RowsOf (· < W.heap.size) Nm.enc 5 W v l) (hw : ∀ m ∈ l, m.Wf) (hl : l.length ≤ 800) :
    Calls Try.prog 6 #[v] W fun e w' => e = .returned (.bool true) ∧ Below W.heap.size W w' := by
  obtain ⟨a, cap, rfl, hlc, hcm, _, hcell⟩ := h
  have HC := hid hcell
  have HWF := hid hw
  have g1 : ¬ (800 : Int) < (l.length : Int) := by omega
  clear hcell hcm hw
  go_enter Try.func6, Try.ntmps6
  go_wp2_with fail
  refine (new_any W).mono ?_
  rintro e w1 ⟨rfl, hb1, hs1, hw1⟩
  have HB1 := hid hb1
  have HS1 := hid hs1
  clear hb1 hs1
  go_upto_region 5 with fail
  refine wpGen ?_
  intro w0 hw0
  obtain ⟨gx, hgx⟩ : ∃ g, g = w1.heap.size := ⟨_, rfl⟩
  rw [← hgx]
  have HQ0 : Hid (PlayQ W w0 gx 0) := by
    refine ⟨[W.heap.size], Nt.new, none, 0, ?_⟩
    have hb : Below w1.heap.size w1 w0 := by rw [hw0]; go_grown
    refine ⟨HB1.out.trans (hb.mono (by have := HS1.out; omega)), hw1.out.later hb, by rw [hw0, hgx]; exact Blk.new _ _ _, RowsOf.nil _ _ _ _, by have := HS1.out; omega, by have := HS1.out; simp; omega⟩
  clear hw0 hgx HB1 HS1 hw1
  go_wp2_with fail
  go_loopw [5] (fun ix wr => ∃ k : Nat, k ≤ l.length ∧ ix = .int .i64 k ∧ PlayQ W wr gx k) (fun ix _ => l.length - (intOf ix).toNat)
  case atStart => exact ⟨0, Nat.zero_le _, rfl, HQ0.out⟩
  case round =>
    obtain ⟨k, hk, rfl, hq⟩ := hrel
    obtain ⟨F, s, ax, capx, hp⟩ := hq
    have HP := hid hp
    have hWr := hp.bel.size
    have hgxl := hp.blk.lt
    have hgw := hp.gxl
    clear hp HQ0
    by_cases hlt : k < l.length
    · obtain ⟨b, off, rfl, hpb, hc⟩ := HC.out.resolve_left (by intro e; rw [e] at hlt; simp at hlt)
      have hcx := hc k hlt
      have hwf := HWF.out _ (List.getElem_mem hlt)
      clear hc
      generalize l[k] = y at hcx hwf
      obtain ⟨kind, fr, tw, bs, kk⟩ := y
      have hbs : bs.size ≤ 140737488351232 := hwf
      have KEEPA : Hid (∀ w', Below W.heap.size W w' → w'.cell? ⟨b, off + k * 5, none⟩ = some (.int .i64 kind) ∧ w'.cell? ⟨b, off + k * 5 + 1, none⟩ = some (.int .i64 fr) ∧ w'.cell? ⟨b, off + k * 5 + 2, none⟩ = some (.int .i64 tw) ∧ w'.cell? ⟨b, off + k * 5 + 3, none⟩ = some (.string bs) ∧ w'.cell? ⟨b, off + k * 5 + 4, none⟩ = some (.int .i64 kk)) := fun w' hb => Nm.cells (fun j u hu => (hb.cell (p := ⟨b, off + k * 5 + j, none⟩) hpb).trans (hcx j u hu))
      obtain ⟨y0, y1, y2, y3, y4⟩ := KEEPA.out _ HP.out.bel
      have hbl : b < wr.heap.size := by omega
      clear hcx hwf
      by_cases hbig : 300 < bs.size
      · have hb1 : (300 : Int) < (bs.size : Int) := by omega
        go_wp2_with fail
        refine (known_any _).mono ?_
        rintro e w3 ⟨rfl, hb3⟩
        go_wp2_with fail
        go_ret
        exact ⟨rfl, HP.out.bel.trans (hb3.mono HP.out.bel.size)⟩
      have hb1 : ¬ (300 : Int) < (bs.size : Int) := by omega
      obtain ⟨s', hs'⟩ : ∃ s', s.step kind fr tw bs kk = s' := ⟨_, rfl⟩
      have x0 : wr.cell? ⟨gx, 0, none⟩ = some (.slice ax s.all.length capx) := HP.out.blk.cell 0
      have x1 : wr.cell? ⟨gx, 1, none⟩ = some (.int .i64 s.next) := HP.out.blk.cell 1
      have x2 : wr.cell? ⟨gx, 2, none⟩ = some (.int .i64 s.lost) := HP.out.blk.cell 2
      have HFR : Hid (∀ q, q ∈ F → q < wr.heap.size) := fun q hq => (HP.out.net.bd q hq).2
      have CP : Hid (∀ w', Below wr.heap.size wr w' → Calls Try.prog 31 #[.pointer (some ⟨W.heap.size, 0, none⟩), .agg #[.slice ax s.all.length capx, .int .i64 s.next, .int .i64 s.lost], .agg #[.int .i64 kind, .int .i64 fr, .int .i64 tw, .string bs, .int .i64 kk]] w' (PlayR W.heap.size F (k + 1) s' (fun b => b < wr.heap.size ∧ b ∉ F ∧ b ≠ gx) w')) := fun w' hw => play_any W.heap.size k F s s' ax capx kind fr tw bs kk w' (HP.out.net.later hw) (HP.out.rows.below hw (fun b hb => hb.1)) (fun b hb => ⟨Nat.lt_of_lt_of_le hb.1 hw.size, hb.2.1⟩) (by omega) hs'
      have KEEP : Hid (∀ w', Only F wr w' → w'.cell? ⟨gx, 0, none⟩ = some (.slice ax s.all.length capx) ∧ w'.cell? ⟨gx, 1, none⟩ = some (.int .i64 s.next) ∧ w'.cell? ⟨gx, 2, none⟩ = some (.int .i64 s.lost) ∧ w'.cell? ⟨b, off + k * 5, none⟩ = some (.int .i64 kind) ∧ w'.cell? ⟨b, off + k * 5 + 1, none⟩ = some (.int .i64 fr) ∧ w'.cell? ⟨b, off + k * 5 + 2, none⟩ = some (.int .i64 tw) ∧ w'.cell? ⟨b, off + k * 5 + 3, none⟩ = some (.string bs) ∧ w'.cell? ⟨b, off + k * 5 + 4, none⟩ = some (.int .i64 kk)) := fun w' ho => by
        have h1 := HP.out.blk.only ho HP.out.gxo
        have h2 := KEEPA.out w' (HP.out.bel.trans (HP.out.net.below ho))
        exact ⟨h1.cell 0, h1.cell 1, h1.cell 2, h2⟩
      clear hs'
      go_upto_region 10 with fail
      go_cut [6, 7] (fun s6 s7 wx => PlayCut W gx (k + 1) s s' ax capx s6 s7 wx)
      case first =>
        go_region_held3 (fun w' => w'.cell? ⟨gx, 0, none⟩ = some (.slice ax s.all.length capx) ∧ w'.cell? ⟨gx, 1, none⟩ = some (.int .i64 s.next) ∧ w'.cell? ⟨gx, 2, none⟩ = some (.int .i64 s.lost) ∧ w'.cell? ⟨b, off + k * 5, none⟩ = some (.int .i64 kind) ∧ w'.cell? ⟨b, off + k * 5 + 1, none⟩ = some (.int .i64 fr) ∧ w'.cell? ⟨b, off + k * 5 + 2, none⟩ = some (.int .i64 tw) ∧ w'.cell? ⟨b, off + k * 5 + 3, none⟩ = some (.string bs) ∧ w'.cell? ⟨b, off + k * 5 + 4, none⟩ = some (.int .i64 kk))
          (first
            | exact KEEP.out _ hq3
            | exact KEEP.out _ (hq3.alloc _)
            | exact KEEP.out _ (Only.refl _ _).drew
            | exact KEEP.out _ ((Only.refl _ _).alloc _).drew
            | exact KEEP.out _ (((hq3.setNew (by simp) _).setNew (by simp) _).setNew (by simp) _))
          ((first
            | (go_at_call 31; (with_reducible refine (CP.out wr.drew (Below.refl _ _).drew).mono ?_); rintro e3 w3 ⟨a3, cap3, F', rfl, ho3, hm3, hn3, hr3⟩; have hq3 : Only F wr w3 := (Only.refl _ wr).drew.trans ho3)
            | (go_at_call 31; (with_reducible refine (CP.out _ ((Below.refl _ _).alloc (Nat.le_refl _) _).drew).mono ?_); rintro e3 w3 ⟨a3, cap3, F', rfl, ho3, hm3, hn3, hr3⟩; have hq3 : Only F wr w3 := ((Only.refl _ wr).alloc _).drew.trans ho3; have hk3 : Blk w3 wr.heap.size #[.slice none 0 0, .int .i64 0, .int .i64 0] 52 := (Blk.new wr _ 52).drew.only ho3 (fun hf => by have := HFR.out _ hf; omega); have t0 : w3.cell? ⟨wr.heap.size, 0, none⟩ = some (.slice none 0 0) := hk3.cell 0; have t1 : w3.cell? ⟨wr.heap.size, 1, none⟩ = some (.int .i64 0) := hk3.cell 1; have t2 : w3.cell? ⟨wr.heap.size, 2, none⟩ = some (.int .i64 0) := hk3.cell 2; have tf0 := hk3.free 0; have tf1 := hk3.free 1; have tf2 := hk3.free 2; have HK3 := hid hk3; clear hk3)))
        · have HN3 := hid hn3
          have HR3 := hid hr3
          have HM3 := hid hm3
          have HO3 := hid ho3
          clear hn3 hr3 hm3 ho3
          go_wp2_with fail
          go_meet
          case rel =>
            have hs3 : wr.heap.size ≤ w3.heap.size := hq3.size
            have hgx3 := HP.out.blk.only hq3 HP.out.gxo
            have hgxF : gx ∉ F' := fun hf => (HM3.out gx hf).elim HP.out.gxo (fun h9 => by have h8 : wr.heap.size ≤ gx := h9; omega)
            refine ⟨w3.heap.size, a3, cap3, F', rfl, rfl, (HP.out.bel.trans (HP.out.net.below hq3)).alloc (by omega) _, HN3.out.later ((Below.refl _ _).alloc (Nat.le_refl _) _), hgx3.alloc _, Blk.new _ _ _, by omega, hgxF, fun hf => by have := (HN3.out.bd _ hf).2; omega, by omega, ?_⟩
            refine (HR3.out.below (B := w3.heap.size) ((Below.refl _ _).alloc (Nat.le_refl _) _) (fun b hb => hb.2.1)).imp (fun b hb => ⟨by have := hb.2.1; simp; omega, hb.2.2, ?_, by have := hb.2.1; omega⟩)
            rcases hb.1 with h9 | h9
            · exact h9.2.2
            · have h8 : wr.heap.size ≤ b := h9; omega
        · have HN3 := hid hn3
          have HR3 := hid hr3
          have HM3 := hid hm3
          have HO3 := hid ho3
          clear hn3 hr3 hm3 ho3
          go_wp2_with fail
          go_meet
          case rel =>
            have hs3 : wr.heap.size ≤ w3.heap.size := hq3.size
            have hgx3 := HP.out.blk.only hq3 HP.out.gxo
            have hms : ∀ q, q ∈ F' → q ∈ F ∨ wr.heap.size + 1 ≤ q := fun q hq => (HM3.out q hq).imp id (fun h9 => by simpa using h9)
            have hgxF : gx ∉ F' := fun hf => (hms gx hf).elim HP.out.gxo (fun h9 => by omega)
            have hgyF : wr.heap.size ∉ F' := fun hf => (hms _ hf).elim (fun h9 => by have := HFR.out _ h9; omega) (fun h9 => by omega)
            have hO : Only [wr.heap.size] w3 (((w3.setCell ⟨wr.heap.size, 0, none⟩ (.slice a3 s'.all.length cap3)).setCell ⟨wr.heap.size, 1, none⟩ (.int .i64 s'.next)).setCell ⟨wr.heap.size, 2, none⟩ (.int .i64 s'.lost)) := (((Only.refl _ _).setCell (by simp) _).setCell (by simp) _).setCell (by simp) _
            refine ⟨wr.heap.size, a3, cap3, F', rfl, rfl, (HP.out.bel.trans (HP.out.net.below hq3)).trans (hO.below (by omega) (by simp; omega)), HN3.out.only hO (fun q hq hs => hgyF (by simp at hs; rw [← hs]; exact hq)), hgx3.only hO (by simp; omega), ((HK3.out.set 0 _).set 1 _).set 2 _, by omega, hgxF, hgyF, by omega, ?_⟩
            have hsz := hO.size
            refine (HR3.out.only hO (fun b hb => ⟨hb.2.1, ?_⟩)).imp (fun b hb => ⟨by have := hb.2.1; omega, hb.2.2, ?_, ?_⟩)
            all_goals
              rcases hb.1 with h9 | h9
              · have := h9.1; have := h9.2.2; simp; omega
              · have h8 : wr.heap.size + 1 ≤ b := by simpa using h9
                simp; omega
      case rest =>
      obtain ⟨gy, a7, cap7, F', rfl, rfl, hbx, hnx, hgxk, hgyk, hne, hgxF, hgyF, hWy, hrx⟩ := hcut
      have HBX := hid hbx
      have HNX := hid hnx
      have HX4 := hid hgxk
      have HY4 := hid hgyk
      clear hbx hnx hgxk hgyk x0 x1 x2 y0 y1 y2 y3 y4 CP KEEP
      have v0 : wc.cell? ⟨gy, 0, none⟩ = some (.slice a7 s'.all.length cap7) := HY4.out.cell 0
      have v1 : wc.cell? ⟨gy, 1, none⟩ = some (.int .i64 s'.next) := HY4.out.cell 1
      have v2 : wc.cell? ⟨gy, 2, none⟩ = some (.int .i64 s'.lost) := HY4.out.cell 2
      have z0 : wc.cell? ⟨gx, 0, none⟩ = some (.slice ax s.all.length capx) := HX4.out.cell 0
      have z1 : wc.cell? ⟨gx, 1, none⟩ = some (.int .i64 s.next) := HX4.out.cell 1
      have z2 : wc.cell? ⟨gx, 2, none⟩ = some (.int .i64 s.lost) := HX4.out.cell 2
      have zf0 := HX4.out.free 0
      have zf1 := HX4.out.free 1
      have zf2 := HX4.out.free 2
      go_upto_region 12 with fail
      refine wpGen ?_
      intro w5 hw5
      have hO5 : Only [gx] wc w5 := by rw [hw5]; exact (((Only.refl _ _).setCell (by simp) _).setCell (by simp) _).setCell (by simp) _
      have hX5 : Blk w5 gx #[.slice a7 s'.all.length cap7, .int .i64 s'.next, .int .i64 s'.lost] 52 := by rw [hw5]; exact ((HX4.out.set 0 _).set 1 _).set 2 _
      have hsz := hO5.size
      have HP5 : Hid (Play W w5 gx (k + 1) F' s' a7 cap7) := ⟨HBX.out.trans (hO5.below (by have := HBX.out.size; omega) (by simp; omega)), HNX.out.only hO5 (fun q hq hs => hgxF (by simp at hs; rw [← hs]; exact hq)), hX5, (hrx.out.only hO5 (fun b hb => ⟨hb.1, by simp; exact hb.2.2.1⟩)).imp (fun b hb => ⟨by have := hb.1; omega, hb.2.1, hb.2.2.1⟩), hgw, hgxF⟩
      have q2 : w5.cell? ⟨gx, 2, none⟩ = some (.int .i64 s'.lost) := hX5.cell 2
      have hgl := hX5.lt
      clear hw5 hO5 hX5 v0 v1 v2 z0 z1 z2 zf0 zf1 zf2 hrx
      go_region_held3 (fun w' => w'.cell? ⟨gx, 2, none⟩ = some (.int .i64 s'.lost)) (go_keep)
        ((go_at_call 32; refine (lost_any _ (k + 1) F' s' _ (HP5.out.net.later (Below.refl _ _).drew)).mono ?_; rintro e w' ⟨rfl, rfl⟩))
      all_goals
        go_wp2_with fail
        go_roundw
        case rel => exact ⟨k + 1, by omega, by go_num, F', s', a7, cap7, HP5.out.later (Below.refl _ _).drew⟩
        case measure => simp [intOf]; omega
    · obtain rfl : k = l.length := by omega
      have q0 : wr.cell? ⟨gx, 0, none⟩ = some (.slice ax s.all.length capx) := HP.out.blk.cell 0
      have KEEP : Hid (∀ w', Below wr.heap.size wr w' → w'.cell? ⟨gx, 0, none⟩ = some (.slice ax s.all.length capx)) := fun w' hw => (hw.cell hgxl).trans q0
      have hl9 : s.all.length ≤ 1000000000000 := by have := HP.out.net.inv.len; omega
      have CA : Hid (∀ w', Below wr.heap.size wr w' → Calls Try.prog 34 #[.pointer (some ⟨W.heap.size, 0, none⟩)] w' (NewL w' s.all)) := fun w' hw => all_any _ _ F s w' (HP.out.net.later hw)
      have CR : Hid (∀ w', Below wr.heap.size wr w' → RowsOf (fun b => b < wr.heap.size) Lt.enc 4 w' (.slice ax s.all.length capx) s.all) := fun w' hw => (HP.out.rows.below hw (fun b hb => hb.1)).imp (fun b hb => hb.1)
      go_wp2_with fail
      go_region_held3 (fun w' => w'.cell? ⟨gx, 0, none⟩ = some (.slice ax s.all.length capx))
        (first | exact KEEP.out _ hc10 | exact KEEP.out _ hc9 | exact KEEP.out _ hc8 | exact KEEP.out _ (Below.refl _ _).drew)
        ((first
          | (go_at_call 34; (with_reducible refine (CA.out _ (Below.refl _ _).drew).mono ?_); rintro e8 w8 ⟨a8, cap8, rfl, hb8, hr8⟩; have hc8 : Below wr.heap.size wr w8 := drewL hb8)
          | (go_at_call 33; (with_reducible refine (same_any _ _ s.all s.all true _ hr8.out (fun b hb => hb.2) (CR.out _ hc8) (fun b hb => Nat.lt_of_lt_of_le hb hc8.size) hl9 hl9 (by simp)).mono ?_); rintro e9 w9 ⟨rfl, hb9⟩; have hc9 : Below wr.heap.size wr w9 := hc8.trans (hb9.mono hc8.size))
          | (go_at_call 29; (with_reducible refine (known_any _).mono ?_); rintro e10 w10 ⟨rfl, hb10⟩; have hc10 : Below wr.heap.size wr w10 := hc9.trans (hb10.mono hc9.size))))
      have HF := hid (HP.out.bel.trans (hc10.mono hWr))
      clear hc8 hc9 hc10 hb8 hb9 hb10 hr8 KEEP CA CR
      go_wp2_with fail
      go_ret
      exact ⟨rfl, HF.out⟩
end C28
end Go.Proofs.Ythmopkaecbebpaa
