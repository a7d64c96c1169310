/- Walks of layer 22 (wheel): the document's Step; no condition. -/
import Derived.Test.YthmopkaecbebpaaG22
import Derived.Deep.Cut
import Derived.RegionTactic
namespace Go.Peri
open Go.RowKit
theorem Two.later {α β : Type} {ea : α → List Value} {ka ta : Nat} {eb : β → List Value} {kb tb : Nat} {B : Nat} {w0 wr w' : World} {va vb : Value} {la : List α} {lb : List β} (h : Two ea ka ta eb kb tb B w0 wr va vb la lb) (hb : Below wr.heap.size wr w') (hB : B ≤ wr.heap.size) : Two ea ka ta eb kb tb B w0 w' va vb la lb :=
  ⟨h.bel.trans (hb.mono hB), owns_later h.d hb, owns_later h.r hb, h.x⟩
end Go.Peri
namespace Go.Peri
theorem wpGen {P : Program} {c : Code} {Q : Exit → Act → World → Prop} {a : Act} {w : World} (h : ∀ w2, w2 = w → c.wp P Q a w2) : c.wp P Q a w := h w rfl
end Go.Peri
namespace Go.Proofs.Ythmopkaecbebpaa
open Go.RowKit Go.Peri
namespace C22
def rdK (n : Nat) (l : List Du) (k : Nat) : List Int := ((l.take k).filter (fun d => decide (d.at_ ≤ (n : Int) + 1))).map Du.id
def rrK (n : Nat) (l : List Du) (k : Nat) : List Du := (l.take k).filter (fun d => !decide (d.at_ ≤ (n : Int) + 1))
theorem rdK_hit {n : Nat} {l : List Du} {k : Nat} (hk : k < l.length) (h : l[k].at_ ≤ (n : Int) + 1) : rdK n l (k + 1) = rdK n l k ++ [l[k].id] ∧ rrK n l (k + 1) = rrK n l k := by
  unfold rdK rrK
  rw [List.take_succ_eq_append_getElem hk]
  simp only [List.filter_append, List.map_append, List.filter_cons, h, decide_true, if_true, Bool.not_true, Bool.false_eq_true, if_false, List.filter_nil, List.map_cons, List.map_nil, List.append_nil, and_self]
theorem rdK_miss {n : Nat} {l : List Du} {k : Nat} (hk : k < l.length) (h : ¬ l[k].at_ ≤ (n : Int) + 1) : rdK n l (k + 1) = rdK n l k ∧ rrK n l (k + 1) = rrK n l k ++ [l[k]] := by
  unfold rdK rrK
  rw [List.take_succ_eq_append_getElem hk]
  simp only [List.filter_append, List.map_append, List.filter_cons, h, decide_false, if_true, Bool.not_false, Bool.false_eq_true, if_false, List.filter_nil, List.map_nil, List.append_nil, and_self]
theorem rdK_len (n : Nat) (l : List Du) (k : Nat) : (rdK n l k).length ≤ k ∧ (rrK n l k).length ≤ k := by
  unfold rdK rrK
  rw [List.length_map]
  have h1 := List.length_filter_le (fun d : Du => decide (d.at_ ≤ (n : Int) + 1)) (l.take k)
  have h2 := List.length_filter_le (fun d : Du => !decide (d.at_ ≤ (n : Int) + 1)) (l.take k)
  rw [List.length_take] at h1 h2
  omega
/-- What the document's Step gives. -/
def RStepQ (W : World) (n : Nat) (d : List Int) (r : List Du) (e : Ending) (w' : World) : Prop :=
  ∃ a cap a2 cap2, e = .returned (.tuple #[.slice a d.length cap, .agg #[.int .i64 ((n : Int) + 1), .slice a2 r.length cap2]]) ∧ Below W.heap.size W w' ∧
    Hid (RowsOf (fun b => W.heap.size ≤ b ∧ b < w'.heap.size) ie 1 w' (.slice a d.length cap) d) ∧ Hid (RowsOf (fun b => W.heap.size ≤ b ∧ b < w'.heap.size) Du.enc 2 w' (.slice a2 r.length cap2) r)
set_option maxRecDepth 100000 in
set_option maxHeartbeats 4000000 in
theorem rstep_any {p : Nat → Prop} (n : Nat) (v : Value) (l : List Du) (W : World) (h : RowsOf p Du.enc 2 W v l) (hp : ∀ b, p b → b < W.heap.size) (hn : n ≤ 1000000) (hl : l.length ≤ 32) :
    Calls Try.prog 19 #[.agg #[.int .i64 n, v]] W (RStepQ W n (Wh.due n l) (Wh.rest n l)) := by
  have HP := hid hp
  obtain ⟨a, cap, rfl, hlc, hcm, _, hcell⟩ := h
  have HC := hid hcell
  have hdr := Wh.rest_len n l
  have HDR := hid hdr
  clear hcell hp hdr
  go_enter Try.func19, Try.ntmps19
  go_upto_region 2 with fail
  refine wpGen ?_
  intro w0 hw0
  have HB0 : Hid (Below W.heap.size W w0) := by show Below _ _ _; rw [hw0]; go_grown
  have HX0 : Hid (Blk w0 W.heap.size #[.int .i64 ((n : Int) + 1), .slice a l.length cap] 28) := by show Blk _ _ _ _; rw [hw0]; exact (Blk.new _ _ _).alloc _
  have HY0 : Hid (Blk w0 (W.heap.size + 1) #[.int .i64 0, .slice none 0 0] 28) := by show Blk _ _ _ _; rw [hw0]; exact Blk.new' _ _ _ (by simp)
  have hs0 : W.heap.size + 2 ≤ w0.heap.size := by rw [hw0]; simp
  clear hw0
  have HT0 : Hid (Two ie 1 3 Du.enc 2 130 w0.heap.size w0 w0 (.slice none 0 0) (.slice none 0 0) (rdK n l 0) (rrK n l 0)) := Two.start w0
  go_wp2_with fail
  go_loopw [4, 5, 6] (fun vd vr ix wr => ∃ k : Nat, k ≤ l.length ∧ ix = .int .i64 k ∧ Two ie 1 3 Du.enc 2 130 w0.heap.size w0 wr vd vr (rdK n l k) (rrK n l k)) (fun _ _ ix _ => l.length - (intOf ix).toNat)
  case atStart => exact ⟨0, Nat.zero_le _, rfl, HT0.out⟩
  case round =>
    obtain ⟨k, hk, rfl, ht⟩ := hrel
    have HT := hid ht
    have hsr := ht.bel.size
    have hbx := HX0.out.later ht.bel
    have x0 : wr.cell? ⟨W.heap.size, 0, none⟩ = some (.int .i64 ((n : Int) + 1)) := hbx.cell 0
    have x1 : wr.cell? ⟨W.heap.size, 1, none⟩ = some (.slice a l.length cap) := hbx.cell 1
    have hgx := hbx.lt
    have HBX := hid hbx
    clear ht HT0 hbx
    by_cases hlt : k < l.length
    · obtain ⟨b, off, rfl, hpb, hc⟩ := HC.out.resolve_left (by intro e; rw [e] at hlt; simp at hlt)
      have hbW : b < W.heap.size := HP.out b hpb
      have hbl : b < wr.heap.size := by omega
      obtain ⟨y0, y1⟩ := Du.cells (fun j u hu => ((HT.out.bel.cell (p := ⟨b, off + k * 2 + j, none⟩) (by show b < _; omega)).trans (HB0.out.cell hbW)).trans (hc k hlt j u hu))
      have hlens := rdK_len n l k
      have HKH := hid (fun h => rdK_hit (n := n) hlt h)
      have HKM := hid (fun h => rdK_miss (n := n) hlt h)
      clear hc
      generalize hy : l[k] = y at y0 y1 HKH HKM
      clear hy
      obtain ⟨yid, yat⟩ := y
      simp only at y0 y1
      by_cases hz : yat ≤ (n : Int) + 1
      · have HK := hid (HKH.out hz)
        go_wp2_with fail
        refine wp_region_bw (by kernel_rfl) (by kernel_rfl) ?_
        repeat (go_big_quiet_step (fail))
        refine wpQuiet_nil ?_
        rintro w2 ⟨⟨_, hb2⟩, rfl⟩
        have hs2 := hb2.size
        have hx : Hid (Two ie 1 3 Du.enc 2 130 w0.heap.size w0 w2 u4 u5 (rdK n l k) (rrK n l k)) := HT.out.later hb2 hsr
        have HBX2 := hid (HBX.out.later hb2)
        have q1 : w2.cell? ⟨W.heap.size, 1, none⟩ = some (.slice (some ⟨b, off, none⟩) l.length cap) := (hb2.cell hgx).trans x1
        have q2 : w2.cell? ⟨b, off + k * 2, none⟩ = some (.int .i64 yid) := (hb2.cell hbl).trans y0
        clear hb2 x0 x1 y0 y1
        go_wp2_with (at_builtin; refine wpList_push_at (w0 := w2) (T := 3) (news := ie yid) elemI rfl _ _ rfl w0.heap.size _ _ _ rfl hx.out.d rfl (by first | rfl | simp [Act.eval]) rfl (by intro u hu; exact ie_one [yid] u (by simpa using hu)) ?_ ?_ ?_ ?_)
        · unfold maxLen; omega
        · omega
        · omega
        intro v1 w3 hown1 ho1 hm1
        have HN : Hid (Two ie 1 3 Du.enc 2 130 w0.heap.size w0 w3 v1 u5 (rdK n l (k + 1)) (rrK n l (k + 1))) := by
          show Two _ _ _ _ _ _ _ _ _ _ _ _ _
          rw [HK.out.1, HK.out.2]
          exact hx.out.pushA (by omega) hown1 ho1 hm1
        clear hown1 ho1 hm1 hx
        go_wp2_with fail
        go_roundw
        case rel => exact ⟨k + 1, by omega, by go_num, HN.out⟩
        case measure => simp [intOf]; omega
      · have HK := hid (HKM.out hz)
        go_wp2_with fail
        refine wp_region_bw (by kernel_rfl) (by kernel_rfl) ?_
        repeat (go_big_quiet_step (fail))
        refine wpQuiet_nil ?_
        rintro w2 ⟨⟨_, hb2⟩, rfl⟩
        have hs2 := hb2.size
        have hx : Hid (Two ie 1 3 Du.enc 2 130 w0.heap.size w0 w2 u4 u5 (rdK n l k) (rrK n l k)) := HT.out.later hb2 hsr
        have q1 : w2.cell? ⟨W.heap.size, 1, none⟩ = some (.slice (some ⟨b, off, none⟩) l.length cap) := (hb2.cell hgx).trans x1
        have q2 : w2.cell? ⟨b, off + k * 2, none⟩ = some (.int .i64 yid) := (hb2.cell hbl).trans y0
        have q3 : w2.cell? ⟨b, off + k * 2 + 1, none⟩ = some (.int .i64 yat) := (hb2.cell hbl).trans y1
        clear hb2 x0 x1 y0 y1
        go_wp2_with (at_builtin; refine wpList_push_at (w0 := w2) (T := 130) (news := Du.enc ⟨yid, yat⟩) elemD rfl _ _ rfl w0.heap.size _ _ _ rfl hx.out.r rfl (by first | rfl | simp [Act.eval]) rfl (by intro u hu; exact Du.one [⟨yid, yat⟩] u (by simpa using hu)) ?_ ?_ ?_ ?_)
        · unfold maxLen; omega
        · omega
        · omega
        intro v1 w3 hown1 ho1 hm1
        have HN : Hid (Two ie 1 3 Du.enc 2 130 w0.heap.size w0 w3 u4 v1 (rdK n l (k + 1)) (rrK n l (k + 1))) := by
          show Two _ _ _ _ _ _ _ _ _ _ _ _ _
          rw [HK.out.1, HK.out.2]
          exact hx.out.pushB (by omega) hown1 ho1 hm1
        clear hown1 ho1 hm1 hx
        go_wp2_with fail
        go_roundw
        case rel => exact ⟨k + 1, by omega, by go_num, HN.out⟩
        case measure => simp [intOf]; omega
    · obtain rfl : k = l.length := by omega
      have hd : rdK n l l.length = Wh.due n l := by unfold rdK Wh.due; rw [List.take_length]
      have hr : rrK n l l.length = Wh.rest n l := by unfold rrK Wh.rest; rw [List.take_length]
      have ht := HT.out
      rw [hd, hr] at ht
      obtain ⟨a4, cap4, rfl⟩ := owns_form ht.d
      obtain ⟨a5, cap5, rfl⟩ := owns_form ht.r
      have HT2 := hid ht
      have hby := HY0.out.later ht.bel
      have HBY := hid hby
      have f1 := HBX.out.free 1
      clear ht hd hr HT hby
      go_upto_region 11 with fail
      refine wpGen ?_
      intro w5 hw5
      have hO5 : Only [W.heap.size] wr w5 := by rw [hw5]; exact (Only.refl _ _).setCell (by simp) _
      have HX5 : Hid (Blk w5 W.heap.size #[.int .i64 ((n : Int) + 1), .slice a5 (Wh.rest n l).length cap5] 28) := by show Blk _ _ _ _; rw [hw5]; exact HBX.out.set 1 _
      have HY5 := hid (HBY.out.only hO5 (by simp))
      have HO5 := hid hO5
      clear hw5 hO5 x0 x1 f1
      have z0 : w5.cell? ⟨W.heap.size, 0, none⟩ = some (.int .i64 ((n : Int) + 1)) := HX5.out.cell 0
      have z1 : w5.cell? ⟨W.heap.size, 1, none⟩ = some (.slice a5 (Wh.rest n l).length cap5) := HX5.out.cell 1
      have t0 : w5.cell? ⟨W.heap.size + 1, 0, none⟩ = some (.int .i64 0) := HY5.out.cell 0
      have t1 : w5.cell? ⟨W.heap.size + 1, 1, none⟩ = some (.slice none 0 0) := HY5.out.cell 1
      have tf0 := HY5.out.free 0
      have tf1 := HY5.out.free 1
      have hg5 := HX5.out.lt
      have hg6 := HY5.out.lt
      go_region
      all_goals
        go_wp2_with fail
        refine bodyPost_ret (by simp [results, Try.results19, go_sem, t0, t1]; try rfl) rfl ?_
        have hO : ∀ u v, Only [W.heap.size, W.heap.size + 1] wr ((w5.setCell ⟨W.heap.size + 1, 0, none⟩ u).setCell ⟨W.heap.size + 1, 1, none⟩ v).drew := fun u v => (((HO5.out.mono (by simp)).setCell (p := ⟨W.heap.size + 1, 0, none⟩) (by simp) u).setCell (p := ⟨W.heap.size + 1, 1, none⟩) (by simp) v).drew
        refine ⟨_, _, _, _, rfl, (HB0.out.trans (HT2.out.bel.mono (by omega))).trans ((hO _ _).below (by omega) (by simp)), ?_, ?_⟩
        · exact ((RowsOf.of_owns (e := 3) ie_length HT2.out.d).only (hO _ _) (fun b hb => ⟨hb.2, by simp; omega⟩)).imp (fun b hb => ⟨by omega, Nat.lt_of_lt_of_le hb.2 (hO _ _).size⟩)
        · exact ((RowsOf.of_owns (e := 130) Du.enc_length HT2.out.r).only (hO _ _) (fun b hb => ⟨hb.2, by simp; omega⟩)).imp (fun b hb => ⟨by omega, Nat.lt_of_lt_of_le hb.2 (hO _ _).size⟩)
end C22
end Go.Proofs.Ythmopkaecbebpaa
