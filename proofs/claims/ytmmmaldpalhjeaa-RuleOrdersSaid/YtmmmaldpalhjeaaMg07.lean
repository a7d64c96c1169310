/- Walks of layer 12 (rule): First; no condition. Walks of layer 12 (rule): what must come of fixed calls; no condition. Plain law of layer 12 (rule): two rows that fall, merged: cut where the ranks cross. Elements exchanged. No program in sight. Walks of layer 12 (rule): ranges of rules exchanged; no condition. Walks of layer 12 (rule): rules rotated; no condition. Plain law of layer 12 (rule): two rows that fall, cut by what is known at the borders alone. No program in sight. Walks of layer 12 (rule): rules merged; no condition. -/
import Derived.Test.YtmmmaldpalhjeaaMg06
import Derived.Deep.Cut
import Derived.Test.YtmmmaldpalhjeaaMg02
import Derived.Shelf.SlSortCmp.KitK
import Derived.BigRegion
import Derived.Sort.WalkB2
import Derived.Sort.WalkB12
import Derived.Deep.LoopGhost
import Derived.Shelf.SlSortCmp.QuietGrown
namespace Go.Proofs.Ytmmmaldpalhjeaa
open Go.RowKit Go.Peri
namespace C12
set_option maxRecDepth 100000 in
set_option maxHeartbeats 2000000 in
theorem first_any (v : Value) (l : List Rl) (m h p b : ByteArray) (hs : List Hd) (a0 : Option Addr) (cap0 : Nat) (r : Int) (W : World) (hl : RowsOf (· < W.heap.size) Rl.enc 10 W v l) (hw : ∀ r ∈ l, r.Wf W W.heap.size) (hq : ReqV W W.heap.size m h p b hs a0 cap0) (hn : hs.length ≤ 1000000) (hll : l.length ≤ 10000000000000) (hps : ∀ r ∈ l, r.preds.length ≤ 1000000000) (hr : firstR (fun r => C11.allR m h p hs r.preds) l = r) :
    Calls Try.prog 54 #[v, .agg #[.string m, .string h, .string p, .slice a0 hs.length cap0, .string b]] W fun e w' => e = .returned (.int .i64 r) ∧ Below W.heap.size W w' := by
  obtain ⟨a, cap, rfl, hlc, hcm, _, hcell⟩ := hl
  have HC := hid hcell
  have HR := hid hr
  have HIT := hid (fun (x : Rl) (q : Bool) (w' : World) (hx : x ∈ l) (hh : C11.allR m h p hs x.preds = q) (hb : Below W.heap.size W w') => C16.hits_any x m h p b hs a0 cap0 q w' ((hw x hx).below hb) (hq.below hb) hb.size hn (hps x hx) hh)
  clear hcell hw hq hps hr
  go_enter Try.func54, Try.ntmps54
  go_upto_region 1 with fail
  refine wp_gen ?_
  intro w0 hw0
  have hb0 : Below W.heap.size W w0 := by rw [hw0]; go_grown
  have hk0 : Blk w0 W.heap.size #[.string m, .string h, .string p, .slice a0 hs.length cap0, .string b] 67 := by rw [hw0]; exact Blk.new _ _ _
  clear hw0
  have HB0 := hid hb0
  have HK0 := hid hk0
  have hlt0 := hk0.lt
  clear hb0 hk0
  go_wp2_with fail
  go_loopw [5, 10] (fun best i wr => ∃ k : Nat, k ≤ l.length ∧ i = .int .i64 k ∧ best = .int .i64 (firstI (fun r => C11.allR m h p hs r.preds) l k) ∧ Below w0.heap.size w0 wr) (fun _ i _ => l.length - (intOf i).toNat)
  case atStart => exact ⟨0, Nat.zero_le _, rfl, rfl, Below.refl _ _⟩
  case round =>
    obtain ⟨k, hk, rfl, rfl, hb⟩ := hrel
    have HB := hid hb
    have hws := hb.size
    clear hb
    by_cases hlt : k < l.length
    · obtain ⟨bb, off, rfl, hpb, hc⟩ := HC.out.resolve_left (by intro e; rw [e] at hlt; simp at hlt)
      have HBW : Hid (Below W.heap.size W wr) := HB0.out.trans (HB.out.mono HB0.out.size)
      have hbl : bb < wr.heap.size := Nat.lt_of_lt_of_le hpb HBW.out.size
      obtain ⟨c0, c1, c2, c3, c4, c5, c6, c7, c8, c9⟩ := Rl.cells (fun j u hu => (HBW.out.cell (p := ⟨bb, off + k * 10 + j, none⟩) hpb).trans (hc k hlt j u hu))
      have hkr := HK0.out.later HB.out
      have y0 : wr.cell? ⟨W.heap.size, 0, none⟩ = some (.string m) := hkr.cell 0
      have y1 : wr.cell? ⟨W.heap.size, 1, none⟩ = some (.string h) := hkr.cell 1
      have y2 : wr.cell? ⟨W.heap.size, 2, none⟩ = some (.string p) := hkr.cell 2
      have y3 : wr.cell? ⟨W.heap.size, 3, none⟩ = some (.slice a0 hs.length cap0) := hkr.cell 3
      have y4 : wr.cell? ⟨W.heap.size, 4, none⟩ = some (.string b) := hkr.cell 4
      have hltq := hkr.lt
      clear hkr
      have HFN := hid (firstI_neg (fun r => C11.allR m h p hs r.preds) l k hlt)
      have HFP := hid (fun n hn he => firstI_pos (fun r => C11.allR m h p hs r.preds) l k n hlt hn he)
      obtain ⟨bq, hbq⟩ : ∃ bq, C11.allR m h p hs l[k].preds = bq := ⟨_, rfl⟩
      have HHC := hid (fun w' (hb : Below W.heap.size W w') => HIT.out l[k] bq w' (List.getElem_mem hlt) hbq hb)
      have hbn := firstI_lt (fun r => C11.allR m h p hs r.preds) l k
      have HIX : Hid (∀ n (hn : n < l.length), wr.cell? ⟨bb, off + n * 10, none⟩ = some (.int .i64 l[n].rank)) := hid (fun n hn => (Rl.cells (fun j u hu => (HBW.out.cell (p := ⟨bb, off + n * 10 + j, none⟩) hpb).trans (hc n hn j u hu))).1)
      simp only [hbq] at HFN HFP
      obtain ⟨bst, hbst⟩ : ∃ z, firstI (fun r => C11.allR m h p hs r.preds) l k = z := ⟨_, rfl⟩
      obtain ⟨nxt, hnxt⟩ : ∃ z, firstI (fun r => C11.allR m h p hs r.preds) l (k + 1) = z := ⟨_, rfl⟩
      rw [hnxt, hbst] at HFN
      rw [hbst] at hbn
      rw [hnxt] at HFP
      have HNX := hid hnxt
      have HBS := hid hbst
      rw [hbst]
      have i1 : (0 : Int) ≤ (k : Int) := by omega
      have i2 : (k : Int) < (l.length : Int) := by omega
      clear hbq hnxt hc
      rw [hbst] at HFP
      clear hbst
      generalize l[k] = x at c0 c1 c2 c3 c4 c5 c6 c7 c8 c9 HHC HFP
      by_cases hb0 : bst < 0
      · have HV0 := hid (HFN.out hb0)
        cases bq
        · have HV : Hid (nxt = bst) := hid (by rw [HV0.out]; rfl)
          clear HV0 HFN HFP HIX
          go_upto_region 5 with fail
          refine wp_gen ?_
          intro w1 hw1
          have hb1 : Below wr.heap.size wr w1 := by rw [hw1]; go_grown
          have hx1 : Blk w1 wr.heap.size #[.int .i64 x.rank, .slice x.pa x.preds.length x.pcap, .string x.target, .int .i64 x.ap, .int .i64 x.as_, .int .i64 x.dp, .int .i64 x.dt, .int .i64 x.mp, .string x.mirror, .int .i64 x.sample] 60 := by rw [hw1]; exact Blk.new _ _ _
          have b0 : w1.cell? ⟨wr.heap.size, 0, none⟩ = some (.int .i64 x.rank) := hx1.cell 0
          have b1 : w1.cell? ⟨wr.heap.size, 1, none⟩ = some (.slice x.pa x.preds.length x.pcap) := hx1.cell 1
          have b2 : w1.cell? ⟨wr.heap.size, 2, none⟩ = some (.string x.target) := hx1.cell 2
          have b3 : w1.cell? ⟨wr.heap.size, 3, none⟩ = some (.int .i64 x.ap) := hx1.cell 3
          have b4 : w1.cell? ⟨wr.heap.size, 4, none⟩ = some (.int .i64 x.as_) := hx1.cell 4
          have b5 : w1.cell? ⟨wr.heap.size, 5, none⟩ = some (.int .i64 x.dp) := hx1.cell 5
          have b6 : w1.cell? ⟨wr.heap.size, 6, none⟩ = some (.int .i64 x.dt) := hx1.cell 6
          have b7 : w1.cell? ⟨wr.heap.size, 7, none⟩ = some (.int .i64 x.mp) := hx1.cell 7
          have b8 : w1.cell? ⟨wr.heap.size, 8, none⟩ = some (.string x.mirror) := hx1.cell 8
          have b9 : w1.cell? ⟨wr.heap.size, 9, none⟩ = some (.int .i64 x.sample) := hx1.cell 9
          have hlx := hx1.lt
          have HB1 := hid hb1
          have z0 := (hb1.cell (p := ⟨W.heap.size, 0, none⟩) hltq).trans y0
          have z1 := (hb1.cell (p := ⟨W.heap.size, 1, none⟩) hltq).trans y1
          have z2 := (hb1.cell (p := ⟨W.heap.size, 2, none⟩) hltq).trans y2
          have z3 := (hb1.cell (p := ⟨W.heap.size, 3, none⟩) hltq).trans y3
          have z4 := (hb1.cell (p := ⟨W.heap.size, 4, none⟩) hltq).trans y4
          have hltz : W.heap.size < w1.heap.size := Nat.lt_of_lt_of_le hltq hb1.size
          have hblz : bb < w1.heap.size := Nat.lt_of_lt_of_le hbl hb1.size

          clear hx1 hw1 hb1 c0 c1 c2 c3 c4 c5 c6 c7 c8 c9 y0 y1 y2 y3 y4
          have X : Hid (∀ z : BW w1, Calls Try.prog 49 #[.agg #[.int .i64 x.rank, .slice x.pa x.preds.length x.pcap, .string x.target, .int .i64 x.ap, .int .i64 x.as_, .int .i64 x.dp, .int .i64 x.dt, .int .i64 x.mp, .string x.mirror, .int .i64 x.sample], .agg #[.string m, .string h, .string p, .slice a0 hs.length cap0, .string b]] z.val fun e w' => e = .returned (.bool false) ∧ Below z.val.heap.size z.val w') := hid (fun z => HHC.out z.val ((HBW.out.trans (HB1.out.mono HBW.out.size)).trans (z.prop.mono (HBW.out.trans (HB1.out.mono HBW.out.size)).size)))
          go_wp2_with fail
          refine wp_region_bw (by kernel_rfl) (by kernel_rfl) ?_
          repeat (go_big_quiet_step ((go_at_call 49; exact bw_call (X.out _))))
          refine wpQuiet_nil ?_
          rintro w2 ⟨⟨_, hb2⟩, rfl⟩
          have HB2 : Hid (Below w0.heap.size w0 w2) := HB.out.trans ((HB1.out.trans (hb2.mono HB1.out.size)).mono HB.out.size)
          clear hb2
          go_wp2_with fail
          go_roundw
          case rel => exact ⟨k + 1, by omega, by go_num, by rw [HNX.out, HV.out], HB2.out⟩
          case measure => simp [intOf]; omega
        · have HV : Hid (nxt = k) := hid (by rw [HV0.out]; rfl)
          clear HV0 HFN HFP HIX
          go_upto_region 5 with fail
          refine wp_gen ?_
          intro w1 hw1
          have hb1 : Below wr.heap.size wr w1 := by rw [hw1]; go_grown
          have hx1 : Blk w1 wr.heap.size #[.int .i64 x.rank, .slice x.pa x.preds.length x.pcap, .string x.target, .int .i64 x.ap, .int .i64 x.as_, .int .i64 x.dp, .int .i64 x.dt, .int .i64 x.mp, .string x.mirror, .int .i64 x.sample] 60 := by rw [hw1]; exact Blk.new _ _ _
          have b0 : w1.cell? ⟨wr.heap.size, 0, none⟩ = some (.int .i64 x.rank) := hx1.cell 0
          have b1 : w1.cell? ⟨wr.heap.size, 1, none⟩ = some (.slice x.pa x.preds.length x.pcap) := hx1.cell 1
          have b2 : w1.cell? ⟨wr.heap.size, 2, none⟩ = some (.string x.target) := hx1.cell 2
          have b3 : w1.cell? ⟨wr.heap.size, 3, none⟩ = some (.int .i64 x.ap) := hx1.cell 3
          have b4 : w1.cell? ⟨wr.heap.size, 4, none⟩ = some (.int .i64 x.as_) := hx1.cell 4
          have b5 : w1.cell? ⟨wr.heap.size, 5, none⟩ = some (.int .i64 x.dp) := hx1.cell 5
          have b6 : w1.cell? ⟨wr.heap.size, 6, none⟩ = some (.int .i64 x.dt) := hx1.cell 6
          have b7 : w1.cell? ⟨wr.heap.size, 7, none⟩ = some (.int .i64 x.mp) := hx1.cell 7
          have b8 : w1.cell? ⟨wr.heap.size, 8, none⟩ = some (.string x.mirror) := hx1.cell 8
          have b9 : w1.cell? ⟨wr.heap.size, 9, none⟩ = some (.int .i64 x.sample) := hx1.cell 9
          have hlx := hx1.lt
          have HB1 := hid hb1
          have z0 := (hb1.cell (p := ⟨W.heap.size, 0, none⟩) hltq).trans y0
          have z1 := (hb1.cell (p := ⟨W.heap.size, 1, none⟩) hltq).trans y1
          have z2 := (hb1.cell (p := ⟨W.heap.size, 2, none⟩) hltq).trans y2
          have z3 := (hb1.cell (p := ⟨W.heap.size, 3, none⟩) hltq).trans y3
          have z4 := (hb1.cell (p := ⟨W.heap.size, 4, none⟩) hltq).trans y4
          have hltz : W.heap.size < w1.heap.size := Nat.lt_of_lt_of_le hltq hb1.size
          have hblz : bb < w1.heap.size := Nat.lt_of_lt_of_le hbl hb1.size

          clear hx1 hw1 hb1 c0 c1 c2 c3 c4 c5 c6 c7 c8 c9 y0 y1 y2 y3 y4
          have X : Hid (∀ z : BW w1, Calls Try.prog 49 #[.agg #[.int .i64 x.rank, .slice x.pa x.preds.length x.pcap, .string x.target, .int .i64 x.ap, .int .i64 x.as_, .int .i64 x.dp, .int .i64 x.dt, .int .i64 x.mp, .string x.mirror, .int .i64 x.sample], .agg #[.string m, .string h, .string p, .slice a0 hs.length cap0, .string b]] z.val fun e w' => e = .returned (.bool true) ∧ Below z.val.heap.size z.val w') := hid (fun z => HHC.out z.val ((HBW.out.trans (HB1.out.mono HBW.out.size)).trans (z.prop.mono (HBW.out.trans (HB1.out.mono HBW.out.size)).size)))
          go_wp2_with fail
          refine wp_region_bw (by kernel_rfl) (by kernel_rfl) ?_
          repeat (go_big_quiet_step ((go_at_call 49; exact bw_call (X.out _))))
          refine wpQuiet_nil ?_
          rintro w2 ⟨⟨_, hb2⟩, rfl⟩
          have HB2 : Hid (Below w0.heap.size w0 w2) := HB.out.trans ((HB1.out.trans (hb2.mono HB1.out.size)).mono HB.out.size)
          clear hb2
          go_wp2_with fail
          go_roundw
          case rel => exact ⟨k + 1, by omega, by go_num, by rw [HNX.out, HV.out], HB2.out⟩
          case measure => simp [intOf]; omega
      · obtain ⟨n, rfl⟩ : ∃ n : Nat, bst = n := ⟨bst.toNat, by omega⟩
        have hnl : n < l.length := by omega
        have f0 := HIX.out n hnl
        have HV0 := hid (HFP.out n hnl rfl)
        have j1 : (0 : Int) ≤ (n : Int) := by omega
        have j0 : decide ((n : Int) < 0) = false := decide_eq_false (by omega)
        have j3 : ¬ (n : Int) < 0 := by omega
        have j2 : (n : Int) < (l.length : Int) := by omega
        generalize l[n].rank = rn at f0 HV0
        clear HFN HFP HIX hb0
        cases bq
        · have HV : Hid (nxt = n) := hid (by rw [HV0.out]; simp)
          clear HV0
          by_cases hrk : rn < x.rank
          · go_upto_region 5 with fail
            refine wp_gen ?_
            intro w1 hw1
            have hb1 : Below wr.heap.size wr w1 := by rw [hw1]; go_grown
            have hx1 : Blk w1 wr.heap.size #[.int .i64 x.rank, .slice x.pa x.preds.length x.pcap, .string x.target, .int .i64 x.ap, .int .i64 x.as_, .int .i64 x.dp, .int .i64 x.dt, .int .i64 x.mp, .string x.mirror, .int .i64 x.sample] 60 := by rw [hw1]; exact Blk.new _ _ _
            have b0 : w1.cell? ⟨wr.heap.size, 0, none⟩ = some (.int .i64 x.rank) := hx1.cell 0
            have b1 : w1.cell? ⟨wr.heap.size, 1, none⟩ = some (.slice x.pa x.preds.length x.pcap) := hx1.cell 1
            have b2 : w1.cell? ⟨wr.heap.size, 2, none⟩ = some (.string x.target) := hx1.cell 2
            have b3 : w1.cell? ⟨wr.heap.size, 3, none⟩ = some (.int .i64 x.ap) := hx1.cell 3
            have b4 : w1.cell? ⟨wr.heap.size, 4, none⟩ = some (.int .i64 x.as_) := hx1.cell 4
            have b5 : w1.cell? ⟨wr.heap.size, 5, none⟩ = some (.int .i64 x.dp) := hx1.cell 5
            have b6 : w1.cell? ⟨wr.heap.size, 6, none⟩ = some (.int .i64 x.dt) := hx1.cell 6
            have b7 : w1.cell? ⟨wr.heap.size, 7, none⟩ = some (.int .i64 x.mp) := hx1.cell 7
            have b8 : w1.cell? ⟨wr.heap.size, 8, none⟩ = some (.string x.mirror) := hx1.cell 8
            have b9 : w1.cell? ⟨wr.heap.size, 9, none⟩ = some (.int .i64 x.sample) := hx1.cell 9
            have hlx := hx1.lt
            have HB1 := hid hb1
            have z0 := (hb1.cell (p := ⟨W.heap.size, 0, none⟩) hltq).trans y0
            have z1 := (hb1.cell (p := ⟨W.heap.size, 1, none⟩) hltq).trans y1
            have z2 := (hb1.cell (p := ⟨W.heap.size, 2, none⟩) hltq).trans y2
            have z3 := (hb1.cell (p := ⟨W.heap.size, 3, none⟩) hltq).trans y3
            have z4 := (hb1.cell (p := ⟨W.heap.size, 4, none⟩) hltq).trans y4
            have hltz : W.heap.size < w1.heap.size := Nat.lt_of_lt_of_le hltq hb1.size
            have hblz : bb < w1.heap.size := Nat.lt_of_lt_of_le hbl hb1.size
            have fz := (hb1.cell (p := ⟨bb, off + n * 10, none⟩) hbl).trans f0
            clear f0
            clear hx1 hw1 hb1 c0 c1 c2 c3 c4 c5 c6 c7 c8 c9 y0 y1 y2 y3 y4
            have X : Hid (∀ z : BW w1, Calls Try.prog 49 #[.agg #[.int .i64 x.rank, .slice x.pa x.preds.length x.pcap, .string x.target, .int .i64 x.ap, .int .i64 x.as_, .int .i64 x.dp, .int .i64 x.dt, .int .i64 x.mp, .string x.mirror, .int .i64 x.sample], .agg #[.string m, .string h, .string p, .slice a0 hs.length cap0, .string b]] z.val fun e w' => e = .returned (.bool false) ∧ Below z.val.heap.size z.val w') := hid (fun z => HHC.out z.val ((HBW.out.trans (HB1.out.mono HBW.out.size)).trans (z.prop.mono (HBW.out.trans (HB1.out.mono HBW.out.size)).size)))
            go_wp2_with fail
            refine wp_region_bw (by kernel_rfl) (by kernel_rfl) ?_
            repeat (go_big_quiet_step ((go_at_call 49; exact bw_call (X.out _))))
            refine wpQuiet_nil ?_
            rintro w2 ⟨⟨_, hb2⟩, rfl⟩
            have HB2 : Hid (Below w0.heap.size w0 w2) := HB.out.trans ((HB1.out.trans (hb2.mono HB1.out.size)).mono HB.out.size)
            clear hb2
            go_wp2_with fail
            go_roundw
            case rel => exact ⟨k + 1, by omega, by go_num, by rw [HNX.out, HV.out], HB2.out⟩
            case measure => simp [intOf]; omega
          · have hrd : decide (rn < x.rank) = false := decide_eq_false hrk
            go_upto_region 5 with fail
            refine wp_gen ?_
            intro w1 hw1
            have hb1 : Below wr.heap.size wr w1 := by rw [hw1]; go_grown
            have hx1 : Blk w1 wr.heap.size #[.int .i64 x.rank, .slice x.pa x.preds.length x.pcap, .string x.target, .int .i64 x.ap, .int .i64 x.as_, .int .i64 x.dp, .int .i64 x.dt, .int .i64 x.mp, .string x.mirror, .int .i64 x.sample] 60 := by rw [hw1]; exact Blk.new _ _ _
            have b0 : w1.cell? ⟨wr.heap.size, 0, none⟩ = some (.int .i64 x.rank) := hx1.cell 0
            have b1 : w1.cell? ⟨wr.heap.size, 1, none⟩ = some (.slice x.pa x.preds.length x.pcap) := hx1.cell 1
            have b2 : w1.cell? ⟨wr.heap.size, 2, none⟩ = some (.string x.target) := hx1.cell 2
            have b3 : w1.cell? ⟨wr.heap.size, 3, none⟩ = some (.int .i64 x.ap) := hx1.cell 3
            have b4 : w1.cell? ⟨wr.heap.size, 4, none⟩ = some (.int .i64 x.as_) := hx1.cell 4
            have b5 : w1.cell? ⟨wr.heap.size, 5, none⟩ = some (.int .i64 x.dp) := hx1.cell 5
            have b6 : w1.cell? ⟨wr.heap.size, 6, none⟩ = some (.int .i64 x.dt) := hx1.cell 6
            have b7 : w1.cell? ⟨wr.heap.size, 7, none⟩ = some (.int .i64 x.mp) := hx1.cell 7
            have b8 : w1.cell? ⟨wr.heap.size, 8, none⟩ = some (.string x.mirror) := hx1.cell 8
            have b9 : w1.cell? ⟨wr.heap.size, 9, none⟩ = some (.int .i64 x.sample) := hx1.cell 9
            have hlx := hx1.lt
            have HB1 := hid hb1
            have z0 := (hb1.cell (p := ⟨W.heap.size, 0, none⟩) hltq).trans y0
            have z1 := (hb1.cell (p := ⟨W.heap.size, 1, none⟩) hltq).trans y1
            have z2 := (hb1.cell (p := ⟨W.heap.size, 2, none⟩) hltq).trans y2
            have z3 := (hb1.cell (p := ⟨W.heap.size, 3, none⟩) hltq).trans y3
            have z4 := (hb1.cell (p := ⟨W.heap.size, 4, none⟩) hltq).trans y4
            have hltz : W.heap.size < w1.heap.size := Nat.lt_of_lt_of_le hltq hb1.size
            have hblz : bb < w1.heap.size := Nat.lt_of_lt_of_le hbl hb1.size
            have fz := (hb1.cell (p := ⟨bb, off + n * 10, none⟩) hbl).trans f0
            clear f0
            clear hx1 hw1 hb1 c0 c1 c2 c3 c4 c5 c6 c7 c8 c9 y0 y1 y2 y3 y4
            have X : Hid (∀ z : BW w1, Calls Try.prog 49 #[.agg #[.int .i64 x.rank, .slice x.pa x.preds.length x.pcap, .string x.target, .int .i64 x.ap, .int .i64 x.as_, .int .i64 x.dp, .int .i64 x.dt, .int .i64 x.mp, .string x.mirror, .int .i64 x.sample], .agg #[.string m, .string h, .string p, .slice a0 hs.length cap0, .string b]] z.val fun e w' => e = .returned (.bool false) ∧ Below z.val.heap.size z.val w') := hid (fun z => HHC.out z.val ((HBW.out.trans (HB1.out.mono HBW.out.size)).trans (z.prop.mono (HBW.out.trans (HB1.out.mono HBW.out.size)).size)))
            go_wp2_with fail
            refine wp_region_bw (by kernel_rfl) (by kernel_rfl) ?_
            repeat (go_big_quiet_step ((go_at_call 49; exact bw_call (X.out _))))
            refine wpQuiet_nil ?_
            rintro w2 ⟨⟨_, hb2⟩, rfl⟩
            have HB2 : Hid (Below w0.heap.size w0 w2) := HB.out.trans ((HB1.out.trans (hb2.mono HB1.out.size)).mono HB.out.size)
            clear hb2
            go_wp2_with fail
            go_roundw
            case rel => exact ⟨k + 1, by omega, by go_num, by rw [HNX.out, HV.out], HB2.out⟩
            case measure => simp [intOf]; omega
        · by_cases hrk : rn < x.rank
          · have HV : Hid (nxt = k) := hid (by rw [HV0.out]; simp [hrk])
            clear HV0
            go_upto_region 5 with fail
            refine wp_gen ?_
            intro w1 hw1
            have hb1 : Below wr.heap.size wr w1 := by rw [hw1]; go_grown
            have hx1 : Blk w1 wr.heap.size #[.int .i64 x.rank, .slice x.pa x.preds.length x.pcap, .string x.target, .int .i64 x.ap, .int .i64 x.as_, .int .i64 x.dp, .int .i64 x.dt, .int .i64 x.mp, .string x.mirror, .int .i64 x.sample] 60 := by rw [hw1]; exact Blk.new _ _ _
            have b0 : w1.cell? ⟨wr.heap.size, 0, none⟩ = some (.int .i64 x.rank) := hx1.cell 0
            have b1 : w1.cell? ⟨wr.heap.size, 1, none⟩ = some (.slice x.pa x.preds.length x.pcap) := hx1.cell 1
            have b2 : w1.cell? ⟨wr.heap.size, 2, none⟩ = some (.string x.target) := hx1.cell 2
            have b3 : w1.cell? ⟨wr.heap.size, 3, none⟩ = some (.int .i64 x.ap) := hx1.cell 3
            have b4 : w1.cell? ⟨wr.heap.size, 4, none⟩ = some (.int .i64 x.as_) := hx1.cell 4
            have b5 : w1.cell? ⟨wr.heap.size, 5, none⟩ = some (.int .i64 x.dp) := hx1.cell 5
            have b6 : w1.cell? ⟨wr.heap.size, 6, none⟩ = some (.int .i64 x.dt) := hx1.cell 6
            have b7 : w1.cell? ⟨wr.heap.size, 7, none⟩ = some (.int .i64 x.mp) := hx1.cell 7
            have b8 : w1.cell? ⟨wr.heap.size, 8, none⟩ = some (.string x.mirror) := hx1.cell 8
            have b9 : w1.cell? ⟨wr.heap.size, 9, none⟩ = some (.int .i64 x.sample) := hx1.cell 9
            have hlx := hx1.lt
            have HB1 := hid hb1
            have z0 := (hb1.cell (p := ⟨W.heap.size, 0, none⟩) hltq).trans y0
            have z1 := (hb1.cell (p := ⟨W.heap.size, 1, none⟩) hltq).trans y1
            have z2 := (hb1.cell (p := ⟨W.heap.size, 2, none⟩) hltq).trans y2
            have z3 := (hb1.cell (p := ⟨W.heap.size, 3, none⟩) hltq).trans y3
            have z4 := (hb1.cell (p := ⟨W.heap.size, 4, none⟩) hltq).trans y4
            have hltz : W.heap.size < w1.heap.size := Nat.lt_of_lt_of_le hltq hb1.size
            have hblz : bb < w1.heap.size := Nat.lt_of_lt_of_le hbl hb1.size
            have fz := (hb1.cell (p := ⟨bb, off + n * 10, none⟩) hbl).trans f0
            clear f0
            clear hx1 hw1 hb1 c0 c1 c2 c3 c4 c5 c6 c7 c8 c9 y0 y1 y2 y3 y4
            have X : Hid (∀ z : BW w1, Calls Try.prog 49 #[.agg #[.int .i64 x.rank, .slice x.pa x.preds.length x.pcap, .string x.target, .int .i64 x.ap, .int .i64 x.as_, .int .i64 x.dp, .int .i64 x.dt, .int .i64 x.mp, .string x.mirror, .int .i64 x.sample], .agg #[.string m, .string h, .string p, .slice a0 hs.length cap0, .string b]] z.val fun e w' => e = .returned (.bool true) ∧ Below z.val.heap.size z.val w') := hid (fun z => HHC.out z.val ((HBW.out.trans (HB1.out.mono HBW.out.size)).trans (z.prop.mono (HBW.out.trans (HB1.out.mono HBW.out.size)).size)))
            go_wp2_with fail
            refine wp_region_bw (by kernel_rfl) (by kernel_rfl) ?_
            repeat (go_big_quiet_step ((go_at_call 49; exact bw_call (X.out _))))
            refine wpQuiet_nil ?_
            rintro w2 ⟨⟨_, hb2⟩, rfl⟩
            have HB2 : Hid (Below w0.heap.size w0 w2) := HB.out.trans ((HB1.out.trans (hb2.mono HB1.out.size)).mono HB.out.size)
            clear hb2
            go_wp2_with fail
            go_roundw
            case rel => exact ⟨k + 1, by omega, by go_num, by rw [HNX.out, HV.out], HB2.out⟩
            case measure => simp [intOf]; omega
          · have HV : Hid (nxt = n) := hid (by rw [HV0.out]; simp [hrk])
            have hrd : decide (rn < x.rank) = false := decide_eq_false hrk
            clear HV0
            go_upto_region 5 with fail
            refine wp_gen ?_
            intro w1 hw1
            have hb1 : Below wr.heap.size wr w1 := by rw [hw1]; go_grown
            have hx1 : Blk w1 wr.heap.size #[.int .i64 x.rank, .slice x.pa x.preds.length x.pcap, .string x.target, .int .i64 x.ap, .int .i64 x.as_, .int .i64 x.dp, .int .i64 x.dt, .int .i64 x.mp, .string x.mirror, .int .i64 x.sample] 60 := by rw [hw1]; exact Blk.new _ _ _
            have b0 : w1.cell? ⟨wr.heap.size, 0, none⟩ = some (.int .i64 x.rank) := hx1.cell 0
            have b1 : w1.cell? ⟨wr.heap.size, 1, none⟩ = some (.slice x.pa x.preds.length x.pcap) := hx1.cell 1
            have b2 : w1.cell? ⟨wr.heap.size, 2, none⟩ = some (.string x.target) := hx1.cell 2
            have b3 : w1.cell? ⟨wr.heap.size, 3, none⟩ = some (.int .i64 x.ap) := hx1.cell 3
            have b4 : w1.cell? ⟨wr.heap.size, 4, none⟩ = some (.int .i64 x.as_) := hx1.cell 4
            have b5 : w1.cell? ⟨wr.heap.size, 5, none⟩ = some (.int .i64 x.dp) := hx1.cell 5
            have b6 : w1.cell? ⟨wr.heap.size, 6, none⟩ = some (.int .i64 x.dt) := hx1.cell 6
            have b7 : w1.cell? ⟨wr.heap.size, 7, none⟩ = some (.int .i64 x.mp) := hx1.cell 7
            have b8 : w1.cell? ⟨wr.heap.size, 8, none⟩ = some (.string x.mirror) := hx1.cell 8
            have b9 : w1.cell? ⟨wr.heap.size, 9, none⟩ = some (.int .i64 x.sample) := hx1.cell 9
            have hlx := hx1.lt
            have HB1 := hid hb1
            have z0 := (hb1.cell (p := ⟨W.heap.size, 0, none⟩) hltq).trans y0
            have z1 := (hb1.cell (p := ⟨W.heap.size, 1, none⟩) hltq).trans y1
            have z2 := (hb1.cell (p := ⟨W.heap.size, 2, none⟩) hltq).trans y2
            have z3 := (hb1.cell (p := ⟨W.heap.size, 3, none⟩) hltq).trans y3
            have z4 := (hb1.cell (p := ⟨W.heap.size, 4, none⟩) hltq).trans y4
            have hltz : W.heap.size < w1.heap.size := Nat.lt_of_lt_of_le hltq hb1.size
            have hblz : bb < w1.heap.size := Nat.lt_of_lt_of_le hbl hb1.size
            have fz := (hb1.cell (p := ⟨bb, off + n * 10, none⟩) hbl).trans f0
            clear f0
            clear hx1 hw1 hb1 c0 c1 c2 c3 c4 c5 c6 c7 c8 c9 y0 y1 y2 y3 y4
            have X : Hid (∀ z : BW w1, Calls Try.prog 49 #[.agg #[.int .i64 x.rank, .slice x.pa x.preds.length x.pcap, .string x.target, .int .i64 x.ap, .int .i64 x.as_, .int .i64 x.dp, .int .i64 x.dt, .int .i64 x.mp, .string x.mirror, .int .i64 x.sample], .agg #[.string m, .string h, .string p, .slice a0 hs.length cap0, .string b]] z.val fun e w' => e = .returned (.bool true) ∧ Below z.val.heap.size z.val w') := hid (fun z => HHC.out z.val ((HBW.out.trans (HB1.out.mono HBW.out.size)).trans (z.prop.mono (HBW.out.trans (HB1.out.mono HBW.out.size)).size)))
            go_wp2_with fail
            refine wp_region_bw (by kernel_rfl) (by kernel_rfl) ?_
            repeat (go_big_quiet_step ((go_at_call 49; exact bw_call (X.out _))))
            refine wpQuiet_nil ?_
            rintro w2 ⟨⟨_, hb2⟩, rfl⟩
            have HB2 : Hid (Below w0.heap.size w0 w2) := HB.out.trans ((HB1.out.trans (hb2.mono HB1.out.size)).mono HB.out.size)
            clear hb2
            go_wp2_with fail
            go_roundw
            case rel => exact ⟨k + 1, by omega, by go_num, by rw [HNX.out, HV.out], HB2.out⟩
            case measure => simp [intOf]; omega
    · obtain rfl : k = l.length := by omega
      have HF : Hid (firstI (fun r => C11.allR m h p hs r.preds) l l.length = r) := hid HR.out
      rw [HF.out]
      go_wp2_with fail
      go_ret
      exact ⟨rfl, HB0.out.trans (HB.out.mono HB0.out.size)⟩
end C12
end Go.Proofs.Ytmmmaldpalhjeaa
namespace Go.Proofs.Ytmmmaldpalhjeaa
open Go.RowKit Go.Peri
namespace C12
def kA : Rl := ⟨1, none, 0, [], ⟨#[97]⟩, 0, 0, 0, 0, 0, ByteArray.empty, 0⟩
def kB (n : Nat) : Rl := ⟨5, some ⟨n, 0, none⟩, 1, [⟨2, ByteArray.empty, ⟨#[120]⟩⟩], ⟨#[98]⟩, 0, 0, 0, 0, 0, ByteArray.empty, 0⟩
def kC : Rl := ⟨5, none, 0, [], ⟨#[99]⟩, 0, 0, 0, 0, 0, ByteArray.empty, 0⟩
def kL (n : Nat) : List Rl := [kA, kB n, kC]
theorem kA_wf (w : World) (B : Nat) : kA.Wf w B := ⟨RowsOf.nil _ _ _ _, by decide, by simp [kA], by simp [kA, Sp.I64], by decide, by decide⟩
theorem kC_wf (w : World) (B : Nat) : kC.Wf w B := ⟨RowsOf.nil _ _ _ _, by decide, by simp [kC], by simp [kC, Sp.I64], by decide, by decide⟩
theorem kB_wf {w : World} {n B : Nat} (h : Blk w n #[.int .i64 2, .string ByteArray.empty, .string ⟨#[120]⟩] 146) (hB : n < B) : (kB n).Wf w B :=
  ⟨(rows_of_blk (l := [⟨2, ByteArray.empty, ⟨#[120]⟩⟩]) (enc := Prd.enc) (k := 3) (fun _ => rfl) h rfl (by decide)).imp (fun b hb => by rw [hb]; exact hB), by show 1 * 40 ≤ 140737488351232; decide, fun x hx => by
    have : x = ⟨2, ByteArray.empty, ⟨#[120]⟩⟩ := by simpa [kB] using hx
    subst this
    exact ⟨by simp [Sp.I64], by decide, by decide⟩, by simp [kB, Sp.I64], by show 1 ≤ 140737488351232; decide, by show 0 ≤ 140737488351232; decide⟩
theorem kReq (w : World) (h : ByteArray) (hh : h.size ≤ 140737488351232) : ReqV w w.heap.size ByteArray.empty h ByteArray.empty ByteArray.empty [] none 0 := ⟨RowsOf.nil _ _ _ _, by decide, by simp, by decide, hh, by decide, by decide⟩
theorem kL_psl (n : Nat) : ∀ r ∈ kL n, r.preds.length ≤ 1000000 := by
  intro r hr
  simp only [kL, List.mem_cons, List.not_mem_nil, or_false] at hr
  rcases hr with rfl | rfl | rfl
  · decide
  · show 1 ≤ 1000000; decide
  · decide
/-- The fixed rules, wherever memory has grown. -/
structure KeepL (W w' : World) : Prop where
  rows : RowsOf (· < w'.heap.size) Rl.enc 10 w' (.slice (some ⟨W.heap.size + 1, 0, none⟩) 3 3) (kL W.heap.size)
  wf : ∀ r ∈ kL W.heap.size, r.Wf w' w'.heap.size
theorem keepL {W w1 w' : World} (h0 : Blk w1 W.heap.size #[.int .i64 2, .string ByteArray.empty, .string ⟨#[120]⟩] 146) (h1 : Blk w1 (W.heap.size + 1) #[.int .i64 1, .slice none 0 0, .string ⟨#[97]⟩, .int .i64 0, .int .i64 0, .int .i64 0, .int .i64 0, .int .i64 0, .string ByteArray.empty, .int .i64 0, .int .i64 5, .slice (some ⟨W.heap.size, 0, none⟩) 1 1, .string ⟨#[98]⟩, .int .i64 0, .int .i64 0, .int .i64 0, .int .i64 0, .int .i64 0, .string ByteArray.empty, .int .i64 0, .int .i64 5, .slice none 0 0, .string ⟨#[99]⟩, .int .i64 0, .int .i64 0, .int .i64 0, .int .i64 0, .int .i64 0, .string ByteArray.empty, .int .i64 0] 60) (hb : Below w1.heap.size w1 w') : KeepL W w' := by
  have k0 := h0.later hb
  have k1 := h1.later hb
  refine ⟨(rows_of_blk (l := kL W.heap.size) Rl.enc_length k1 rfl (by show 3 ≤ maxLen; decide)).imp (fun b hb => by rw [hb]; exact k1.lt), fun r hr => ?_⟩
  simp only [kL, List.mem_cons, List.not_mem_nil, or_false] at hr
  rcases hr with rfl | rfl | rfl
  · exact kA_wf _ _
  · exact kB_wf k0 k0.lt
  · exact kC_wf _ _
def Known : Prop := ∀ W : World, Calls Try.prog 44 #[] W fun e w' => e = .returned (.bool true) ∧ Below W.heap.size W w'
set_option maxRecDepth 100000 in
set_option maxHeartbeats 4000000 in
theorem known_any : Known := by
  intro W
  go_enter Try.func44, Try.ntmps44
  go_upto_region 2 with fail
  refine wp_gen ?_
  intro w1 hw1
  have hb1 : Below W.heap.size W w1 := by rw [hw1]; go_grown
  have h0 : Blk w1 W.heap.size #[.int .i64 2, .string ByteArray.empty, .string ⟨#[120]⟩] 146 := by rw [hw1]; exact (Blk.new _ _ _).alloc _
  have h1 : Blk w1 (W.heap.size + 1) #[.int .i64 1, .slice none 0 0, .string ⟨#[97]⟩, .int .i64 0, .int .i64 0, .int .i64 0, .int .i64 0, .int .i64 0, .string ByteArray.empty, .int .i64 0, .int .i64 5, .slice (some ⟨W.heap.size, 0, none⟩) 1 1, .string ⟨#[98]⟩, .int .i64 0, .int .i64 0, .int .i64 0, .int .i64 0, .int .i64 0, .string ByteArray.empty, .int .i64 0, .int .i64 5, .slice none 0 0, .string ⟨#[99]⟩, .int .i64 0, .int .i64 0, .int .i64 0, .int .i64 0, .int .i64 0, .string ByteArray.empty, .int .i64 0] 60 := by rw [hw1]; exact Blk.new' _ _ _ (by simp)
  clear hw1
  have HB1 := hid hb1
  have K := hid (fun w' hb => keepL (w' := w') h0 h1 hb)
  have HO := hid (order_any (.slice (some ⟨W.heap.size + 1, 0, none⟩) 3 3) (kL W.heap.size) w1 (K.out w1 (Below.refl _ _)).rows (fun _ h => h) (by show 3 < 20; decide) (fun x hx => ((K.out w1 (Below.refl _ _)).wf x hx).at) (kL_psl _))
  have HK1 := hid h1
  clear hb1 h0 h1
  go_wp2_with fail
  refine HO.out.mono ?_
  rintro e w2 ⟨v2, rfl, l2, hc2, hb2, hown2, hat2⟩
  obtain ⟨g, cap2, rfl, _, hg⟩ := owns_at hown2 (by show 0 < 3; decide)
  have hl2 : l2.length = 3 := by
    have := congrArg List.length hc2
    rw [List.length_map, List.length_map, Srt.order_length] at this
    exact this
  obtain ⟨x0, x1, x2, rfl⟩ : ∃ x0 x1 x2, l2 = [x0, x1, x2] := by
    match l2, hl2 with
    | [a, b, c], _ => exact ⟨a, b, c, rfl⟩
  have hc3 : x0.core = (kB W.heap.size).core ∧ x1.core = kC.core ∧ x2.core = kA.core := by
    have e : Srt.order Rl.rank (kL W.heap.size) = [kB W.heap.size, kC, kA] := rfl
    rw [e] at hc2
    simpa using hc2
  have t0 : x0.target = ⟨#[98]⟩ := (Rl.core_eq hc3.1).2.2.1
  have t1 : x1.target = ⟨#[99]⟩ := (Rl.core_eq hc3.2.1).2.2.1
  have t2 : x2.target = ⟨#[97]⟩ := (Rl.core_eq hc3.2.2).2.2.1
  have u0 : w2.cell? ⟨g, 2, none⟩ = some (.string ⟨#[98]⟩) := by rw [hown2.cellAt 2 (by show 2 < 3 * 10; decide), ← t0]; rfl
  have u1 : w2.cell? ⟨g, 12, none⟩ = some (.string ⟨#[99]⟩) := by rw [hown2.cellAt 12 (by show 12 < 3 * 10; decide), ← t1]; rfl
  have u2 : w2.cell? ⟨g, 22, none⟩ = some (.string ⟨#[97]⟩) := by rw [hown2.cellAt 22 (by show 22 < 3 * 10; decide), ← t2]; rfl
  have HB2 := hid hb2
  clear hown2 hat2 hc2 hc3 hl2 t0 t1 t2 hb2 HO
  have LV3 : (kL W.heap.size).length = 3 := rfl
  have H0 : Hid (∀ w', Below w1.heap.size w1 w' → Calls Try.prog 54 #[.slice (some ⟨W.heap.size + 1, 0, none⟩) 3 3, .agg #[.string ByteArray.empty, .string ⟨#[120]⟩, .string ByteArray.empty, .slice none 0 0, .string ByteArray.empty]] w' fun e w'' => e = .returned (.int .i64 1) ∧ Below w'.heap.size w' w'') := hid (fun w' hw => first_any _ (kL W.heap.size) ByteArray.empty ⟨#[120]⟩ ByteArray.empty ByteArray.empty [] none 0 1 w' (K.out w' hw).rows (K.out w' hw).wf (kReq w' ⟨#[120]⟩ (by decide)) (by decide) (by show 3 ≤ 10000000000000; decide) (fun r hr => Nat.le_trans (kL_psl _ r hr) (by decide)) (by rfl))
  have H1 : Hid (∀ w', Below w1.heap.size w1 w' → Calls Try.prog 54 #[.slice (some ⟨W.heap.size + 1, 0, none⟩) 3 3, .agg #[.string ByteArray.empty, .string ByteArray.empty, .string ByteArray.empty, .slice none 0 0, .string ByteArray.empty]] w' fun e w'' => e = .returned (.int .i64 2) ∧ Below w'.heap.size w' w'') := hid (fun w' hw => first_any _ (kL W.heap.size) ByteArray.empty ByteArray.empty ByteArray.empty ByteArray.empty [] none 0 2 w' (K.out w' hw).rows (K.out w' hw).wf (kReq w' ByteArray.empty (by decide)) (by decide) (by show 3 ≤ 10000000000000; decide) (fun r hr => Nat.le_trans (kL_psl _ r hr) (by decide)) (by rfl))
  have H2 : Hid (∀ w', Below w1.heap.size w1 w' → Calls Try.prog 54 #[.slice none 0 0, .agg #[.string ByteArray.empty, .string ByteArray.empty, .string ByteArray.empty, .slice none 0 0, .string ByteArray.empty]] w' fun e w'' => e = .returned (.int .i64 (-1)) ∧ Below w'.heap.size w' w'') := hid (fun w' hw => first_any _ [] ByteArray.empty ByteArray.empty ByteArray.empty ByteArray.empty [] none 0 (-1) w' (RowsOf.nil _ _ _ _) (by simp) (kReq w' ByteArray.empty (by decide)) (by decide) (by decide) (by simp) (by rfl))
  have H3 : Hid (∀ w', Below w1.heap.size w1 w' → Calls Try.prog 49 #[.agg #[.int .i64 1, .slice none 0 0, .string ⟨#[97]⟩, .int .i64 0, .int .i64 0, .int .i64 0, .int .i64 0, .int .i64 0, .string ByteArray.empty, .int .i64 0], .agg #[.string ByteArray.empty, .string ByteArray.empty, .string ByteArray.empty, .slice none 0 0, .string ByteArray.empty]] w' fun e w'' => e = .returned (.bool true) ∧ Below w'.heap.size w' w'') := hid (fun w' hw => C16.hits_any kA ByteArray.empty ByteArray.empty ByteArray.empty ByteArray.empty [] none 0 true w' (kA_wf _ _) (kReq w' ByteArray.empty (by decide)) (Nat.le_refl _) (by decide) (by decide) (by rfl))
  have H4 : Hid (∀ w' : World, Calls Try.prog 45 #[.agg #[.int .i64 1, .slice none 0 0, .string ⟨#[97]⟩, .int .i64 0, .int .i64 0, .int .i64 0, .int .i64 0, .int .i64 0, .string ByteArray.empty, .int .i64 0], .slice (some ⟨w'.heap.size, 0, none⟩) 1 1] (w'.alloc (.cells #[.string ⟨#[97]⟩] 9)) fun e w'' => e = .returned (.int .i64 0) ∧ Below (w'.alloc (.cells #[.string ⟨#[97]⟩] 9)).heap.size (w'.alloc (.cells #[.string ⟨#[97]⟩] 9)) w'') := hid (fun w' =>
    check_any 1 none 0 [] ⟨#[97]⟩ 0 0 0 0 0 ByteArray.empty 0 [⟨#[97]⟩] (.slice (some ⟨w'.heap.size, 0, none⟩) 1 1) 0 _ (RowsOf.nil _ _ _ _) (by simp) (by decide) ((rows_of_blk (l := [⟨#[97]⟩]) (enc := sEnc) (k := 1) (fun _ => rfl) (Blk.new w' #[.string ⟨#[97]⟩] 9) rfl (by decide)).imp (fun b hb => by rw [hb]; simp)) (by decide) (by rfl))
  have H5 : Hid (∀ w' : World, Calls Try.prog 45 #[.agg #[.int .i64 1, .slice none 0 0, .string ⟨#[97]⟩, .int .i64 0, .int .i64 0, .int .i64 0, .int .i64 0, .int .i64 0, .string ByteArray.empty, .int .i64 0], .slice none 0 0] w' fun e w'' => e = .returned (.int .i64 7) ∧ Below w'.heap.size w' w'') := hid (fun w' =>
    check_any 1 none 0 [] ⟨#[97]⟩ 0 0 0 0 0 ByteArray.empty 0 [] (.slice none 0 0) 7 _ (RowsOf.nil _ _ _ _) (by simp) (by decide) (RowsOf.nil _ _ _ _) (by decide) (by rfl))
  have KA : Hid (∀ w', Below w1.heap.size w1 w' → Blk w' (W.heap.size + 1) #[.int .i64 1, .slice none 0 0, .string ⟨#[97]⟩, .int .i64 0, .int .i64 0, .int .i64 0, .int .i64 0, .int .i64 0, .string ByteArray.empty, .int .i64 0, .int .i64 5, .slice (some ⟨W.heap.size, 0, none⟩) 1 1, .string ⟨#[98]⟩, .int .i64 0, .int .i64 0, .int .i64 0, .int .i64 0, .int .i64 0, .string ByteArray.empty, .int .i64 0, .int .i64 5, .slice none 0 0, .string ⟨#[99]⟩, .int .i64 0, .int .i64 0, .int .i64 0, .int .i64 0, .int .i64 0, .string ByteArray.empty, .int .i64 0] 60) := hid (fun w' hw => HK1.out.later hw)
  clear K HK1
  go_wp2_with fail
  refine (H0.out _ HB2.out).mono ?_
  rintro e w3 ⟨rfl, hb⟩
  have HB3 := hid (HB2.out.trans (hb.mono HB2.out.size))
  clear hb
  go_wp2_with fail
  refine (H1.out _ HB3.out).mono ?_
  rintro e w4 ⟨rfl, hb⟩
  have HB4 := hid (HB3.out.trans (hb.mono HB3.out.size))
  clear hb
  go_wp2_with fail
  refine (H2.out _ HB4.out).mono ?_
  rintro e w5 ⟨rfl, hb⟩
  have HB5 := hid (HB4.out.trans (hb.mono HB4.out.size))
  clear hb
  have hkaw5 := KA.out w5 HB5.out
  have hklw5 := hkaw5.lt
  have a0w5 : w5.cell? ⟨W.heap.size + 1, 0, none⟩ = some (.int .i64 1) := hkaw5.cell 0
  have a1w5 : w5.cell? ⟨W.heap.size + 1, 1, none⟩ = some (.slice none 0 0) := hkaw5.cell 1
  have a2w5 : w5.cell? ⟨W.heap.size + 1, 2, none⟩ = some (.string ⟨#[97]⟩) := hkaw5.cell 2
  have a3w5 : w5.cell? ⟨W.heap.size + 1, 3, none⟩ = some (.int .i64 0) := hkaw5.cell 3
  have a4w5 : w5.cell? ⟨W.heap.size + 1, 4, none⟩ = some (.int .i64 0) := hkaw5.cell 4
  have a5w5 : w5.cell? ⟨W.heap.size + 1, 5, none⟩ = some (.int .i64 0) := hkaw5.cell 5
  have a6w5 : w5.cell? ⟨W.heap.size + 1, 6, none⟩ = some (.int .i64 0) := hkaw5.cell 6
  have a7w5 : w5.cell? ⟨W.heap.size + 1, 7, none⟩ = some (.int .i64 0) := hkaw5.cell 7
  have a8w5 : w5.cell? ⟨W.heap.size + 1, 8, none⟩ = some (.string ByteArray.empty) := hkaw5.cell 8
  have a9w5 : w5.cell? ⟨W.heap.size + 1, 9, none⟩ = some (.int .i64 0) := hkaw5.cell 9
  clear hkaw5
  go_wp2_with fail
  refine (H3.out _ HB5.out).mono ?_
  rintro e w6 ⟨rfl, hb⟩
  have HB6 := hid (HB5.out.trans (hb.mono HB5.out.size))
  clear hb
  have hkaw6 := KA.out w6 HB6.out
  have hklw6 := hkaw6.lt
  have a0w6 : w6.cell? ⟨W.heap.size + 1, 0, none⟩ = some (.int .i64 1) := hkaw6.cell 0
  have a1w6 : w6.cell? ⟨W.heap.size + 1, 1, none⟩ = some (.slice none 0 0) := hkaw6.cell 1
  have a2w6 : w6.cell? ⟨W.heap.size + 1, 2, none⟩ = some (.string ⟨#[97]⟩) := hkaw6.cell 2
  have a3w6 : w6.cell? ⟨W.heap.size + 1, 3, none⟩ = some (.int .i64 0) := hkaw6.cell 3
  have a4w6 : w6.cell? ⟨W.heap.size + 1, 4, none⟩ = some (.int .i64 0) := hkaw6.cell 4
  have a5w6 : w6.cell? ⟨W.heap.size + 1, 5, none⟩ = some (.int .i64 0) := hkaw6.cell 5
  have a6w6 : w6.cell? ⟨W.heap.size + 1, 6, none⟩ = some (.int .i64 0) := hkaw6.cell 6
  have a7w6 : w6.cell? ⟨W.heap.size + 1, 7, none⟩ = some (.int .i64 0) := hkaw6.cell 7
  have a8w6 : w6.cell? ⟨W.heap.size + 1, 8, none⟩ = some (.string ByteArray.empty) := hkaw6.cell 8
  have a9w6 : w6.cell? ⟨W.heap.size + 1, 9, none⟩ = some (.int .i64 0) := hkaw6.cell 9
  clear hkaw6
  have HS4 : Hid (Below w1.heap.size w1 (w6.alloc (.cells #[.string ⟨#[97]⟩] 9))) := hid (HB6.out.alloc HB6.out.size _)
  go_wp2_with fail
  refine (H4.out _).mono ?_
  rintro e w7 ⟨rfl, hb⟩
  have HB7 := hid (HS4.out.trans (hb.mono HS4.out.size))
  clear hb
  have hkaw7 := KA.out w7 HB7.out
  have hklw7 := hkaw7.lt
  have a0w7 : w7.cell? ⟨W.heap.size + 1, 0, none⟩ = some (.int .i64 1) := hkaw7.cell 0
  have a1w7 : w7.cell? ⟨W.heap.size + 1, 1, none⟩ = some (.slice none 0 0) := hkaw7.cell 1
  have a2w7 : w7.cell? ⟨W.heap.size + 1, 2, none⟩ = some (.string ⟨#[97]⟩) := hkaw7.cell 2
  have a3w7 : w7.cell? ⟨W.heap.size + 1, 3, none⟩ = some (.int .i64 0) := hkaw7.cell 3
  have a4w7 : w7.cell? ⟨W.heap.size + 1, 4, none⟩ = some (.int .i64 0) := hkaw7.cell 4
  have a5w7 : w7.cell? ⟨W.heap.size + 1, 5, none⟩ = some (.int .i64 0) := hkaw7.cell 5
  have a6w7 : w7.cell? ⟨W.heap.size + 1, 6, none⟩ = some (.int .i64 0) := hkaw7.cell 6
  have a7w7 : w7.cell? ⟨W.heap.size + 1, 7, none⟩ = some (.int .i64 0) := hkaw7.cell 7
  have a8w7 : w7.cell? ⟨W.heap.size + 1, 8, none⟩ = some (.string ByteArray.empty) := hkaw7.cell 8
  have a9w7 : w7.cell? ⟨W.heap.size + 1, 9, none⟩ = some (.int .i64 0) := hkaw7.cell 9
  clear hkaw7
  go_wp2_with fail
  refine (H5.out _).mono ?_
  rintro e w8 ⟨rfl, hb⟩
  have HB8 := hid (HB7.out.trans (hb.mono HB7.out.size))
  clear hb
  go_wp2_with fail
  go_ret
  exact ⟨rfl, HB1.out.trans (HB8.out.mono HB1.out.size)⟩
end C12
end Go.Proofs.Ytmmmaldpalhjeaa
namespace Go.Peri
namespace Srt
section
variable {α : Type} (f : α → Int)
theorem falls_append : ∀ (l m : List α), Falls f l → Falls f m → (∀ x ∈ l, ∀ y ∈ m, f y ≤ f x) → Falls f (l ++ m)
  | [], _, _, h, _ => h
  | x :: l, m, h1, h2, h3 => by
    refine ⟨fun y hy => ?_, falls_append l m h1.2 h2 (fun z hz => h3 z (by simp [hz]))⟩
    rcases List.mem_append.1 hy with hy | hy
    · exact h1.1 y hy
    · exact h3 x (by simp) y hy
theorem falls_left : ∀ (l m : List α), Falls f (l ++ m) → Falls f l
  | [], _, _ => trivial
  | _ :: l, m, h => ⟨fun y hy => h.1 y (by simp [hy]), falls_left l m h.2⟩
theorem falls_right : ∀ (l m : List α), Falls f (l ++ m) → Falls f m
  | [], _, h => h
  | _ :: l, m, h => falls_right l m h.2
theorem falls_cross : ∀ (l m : List α), Falls f (l ++ m) → ∀ x ∈ l, ∀ y ∈ m, f y ≤ f x
  | [], _, _ => by simp
  | z :: l, m, h => by
    intro x hx y hy
    rcases List.mem_cons.1 hx with rfl | hx
    · exact h.1 y (by simp [hy])
    · exact falls_cross l m h.2 x hx y hy
theorem order_self (l : List α) (h : Falls f l) : order f l = l :=
  eq_of_filter f _ _ (falls_order f l) h (order_filter f l)
theorem order_split (x1 x2 y1 y2 : List α) (hx : Falls f (x1 ++ x2)) (hy : Falls f (y1 ++ y2)) (hA : ∀ e ∈ x1, ∀ g ∈ y2, f g ≤ f e) (hB : ∀ e ∈ x2, ∀ g ∈ y1, f e < f g) :
    order f (x1 ++ y1) ++ order f (x2 ++ y2) = order f ((x1 ++ x2) ++ (y1 ++ y2)) := by
  refine eq_of_filter f _ _ (falls_append f _ _ (falls_order f _) (falls_order f _) ?_) (falls_order f _) (fun k => ?_)
  · intro e he g hg
    rw [order_mem, List.mem_append] at he hg
    rcases he with he | he <;> rcases hg with hg | hg
    · exact falls_cross f _ _ hx e he g hg
    · exact hA e he g hg
    · exact Int.le_of_lt (hB g hg e he)
    · exact falls_cross f _ _ hy e he g hg
  · rw [List.filter_append, order_filter, order_filter, order_filter]
    simp only [List.filter_append, List.append_assoc]
    congr 1
    by_cases h : ∃ g ∈ y1, f g = k
    · obtain ⟨g, hg, rfl⟩ := h
      have : x2.filter (fun y => decide (f y = f g)) = [] := by
        rw [List.filter_eq_nil_iff]
        intro e he
        have := hB e he g hg
        simp; omega
      rw [this]; simp
    · have : y1.filter (fun y => decide (f y = k)) = [] := by
        rw [List.filter_eq_nil_iff]
        intro e he
        simp
        exact fun h2 => h ⟨e, he, h2⟩
      rw [this]; simp
variable [Inhabited α]
theorem swp_comm (d : Array α) (i j : Nat) (h : i ≠ j) : Sort.swp d i j = Sort.swp d j i := by
  unfold Sort.swp
  rw [Array.setIfInBounds_comm _ _ (by omega)]
/-- Two elements exchanged. -/
theorem swp_at (p m r : List α) (u v : α) (i j : Nat) (hi : p.length = i) (hj : i + 1 + m.length = j) : Sort.swp (p ++ u :: (m ++ v :: r)).toArray i j = (p ++ v :: (m ++ u :: r)).toArray := by
  subst hi hj
  unfold Sort.swp
  have e1 : (p ++ u :: (m ++ v :: r)).toArray[p.length]! = u := by
    rw [getElem!_pos _ _ (by simp)]
    simp
  have e2 : (p ++ u :: (m ++ v :: r)).toArray[p.length + 1 + m.length]! = v := by
    rw [getElem!_pos _ _ (by simp; omega)]
    simp only [List.getElem_toArray]
    rw [List.getElem_append_right (by omega)]
    simp only [show p.length + 1 + m.length - p.length = m.length + 1 by omega, List.getElem_cons_succ]
    rw [List.getElem_append_right (by omega)]
    simp
  rw [e1, e2]
  apply Array.ext'
  simp only [Array.toList_setIfInBounds]
  rw [List.set_append_right _ _ (by omega), Nat.sub_self, List.set_cons_zero, List.set_append_right _ _ (by omega)]
  congr 1
  rw [show p.length + 1 + m.length - p.length = m.length + 1 by omega, List.set_cons_succ, List.set_append_right _ _ (by omega), Nat.sub_self, List.set_cons_zero]
end
end Srt
end Go.Peri
namespace Go.Proofs.Ytmmmaldpalhjeaa
open Go.RowKit Go.Peri Go.Shelf Go.Lib Go.Sort
namespace C12
/-- What a walk over rules of k cells is told of a program. -/
structure LayR (P : Program) (k : Nat) : Prop where
  mixed : P.follows .mixedOrders = true
  t0 : P.underlying 0 = some (.tuple #[])
  a0 : ∀ w, (isAgg 0).run P w = .ok false w
  z0 : ∀ w, (Go.sizeOf 0).run P w = .ok 1 w
  v0 : ∀ w, (zeroValue 0).run P w = .ok (.tuple #[]) w
  t3 : P.underlying 3 = some (.int .i64)
  a3 : ∀ w, (isAgg 3).run P w = .ok false w
  z3 : ∀ w, (Go.sizeOf 3).run P w = .ok 1 w
  v3 : ∀ w, (zeroValue 3).run P w = .ok (.int .i64 0) w
  t4 : P.underlying 4 = some .bool
  a4 : ∀ w, (isAgg 4).run P w = .ok false w
  z4 : ∀ w, (Go.sizeOf 4).run P w = .ok 1 w
  v4 : ∀ w, (zeroValue 4).run P w = .ok (.bool false) w
  t22 : P.underlying 44 = some (.slice 60)
  a22 : ∀ w, (isAgg 44).run P w = .ok false w
  z22 : ∀ w, (Go.sizeOf 44).run P w = .ok 1 w
  v22 : ∀ w, (zeroValue 44).run P w = .ok (.slice none 0 0) w
  aE : ∀ w, (isAgg 60).run P w = .ok true w
  zE : ∀ w, (Go.sizeOf 60).run P w = .ok k w
theorem layR : LayR Try.prog 10 := ⟨by kernel_rfl, Try.underlying0, Try.isAgg0, Try.sizeOf0, Try.zeroValue0, Try.underlying3, Try.isAgg3, Try.sizeOf3, Try.zeroValue3, Try.underlying4, Try.isAgg4, Try.sizeOf4, Try.zeroValue4, Try.underlying44, Try.isAgg44, Try.sizeOf44, Try.zeroValue44, Try.isAgg60, Try.sizeOf60⟩
def swapN (d : Array Rl) (a b : Nat) : Nat → Array Rl
  | 0 => d
  | n + 1 => swp (swapN d a b n) (a + n) (b + n)
theorem size_swapN (d : Array Rl) (a b : Nat) : ∀ n, (swapN d a b n).size = d.size
  | 0 => rfl
  | n + 1 => by
    show (swp _ _ _).size = _
    rw [size_swp, size_swapN d a b n]
set_option maxHeartbeats 4000000 in
set_option maxRecDepth 1000000 in
theorem swapRange_gen {P : Program} (FG : P.funcs[(248 : Nat)]? = some Try.f248) (kc : Nat) (L : LayR P kc) (blk off cap a b n : Nat) (d0 d : Array Rl) (w0 w : World) (R : RowK Rl.enc kc w0 blk off d0) (hs : d.size = d0.size) (S : SWK Rl.enc kc w0 blk off d w) (ha : a + n ≤ d.size) (hb : b + n ≤ d.size) (hsz : d.size < 4611686018427387904) :
    Calls P 248 #[.slice (some ⟨blk, off, none⟩) d.size cap, .int .i64 a, .int .i64 b, .int .i64 n, .func (.func 110) #[] #[]] w fun e w' => e = .returned (.tuple #[]) ∧ SWK Rl.enc kc w0 blk off (swapN d a b n) w' := by
  have mixed := L.mixed; have t0 := L.t0; have a0 := L.a0; have z0 := L.z0; have v0 := L.v0; have t3 := L.t3; have a3 := L.a3; have z3 := L.z3; have v3 := L.v3; have t4 := L.t4; have a4 := L.a4; have z4 := L.z4; have v4 := L.v4; have t22 := L.t22; have a22 := L.a22; have z22 := L.z22; have v22 := L.v22; have aE := L.aE; have zE := L.zE
  clear L
  have S0 : Hid (SWK Rl.enc kc w0 blk off (swapN d a b 0) w) := hid S
  clear S
  have HSZ := hid (size_swapN d a b)
  generalize d.size = N at *
  go_enter FG, Try.ntmps248
  go_wp2_with fail
  go_loopw [10] (fun i wr => ∃ k : Nat, k ≤ n ∧ i = .int .i64 k ∧ Hid (SWK Rl.enc kc w0 blk off (swapN d a b k) wr)) (fun i _ => n - (intOf i).toNat)
  case atStart => exact ⟨0, Nat.zero_le _, rfl, S0⟩
  case round =>
    clear S0
    obtain ⟨k, hk, rfl, S1⟩ := hrel
    by_cases hlt : k < n
    · have hlt' : (k : Int) < (n : Int) := by omega
      have hd : decide ((k : Int) < (n : Int)) = true := decide_eq_true hlt'
      obtain ⟨i, hi⟩ : ∃ i, a + k = i := ⟨_, rfl⟩
      obtain ⟨j, hj⟩ : ∃ j, b + k = j := ⟨_, rfl⟩
      have hz := HSZ.out k
      have S2' : Hid (SWK Rl.enc kc w0 blk off (swapN d a b (k + 1)) ((wr.drew.setCells blk (off + i * kc) (Rl.enc (swapN d a b k)[j]!)).setCells blk (off + j * kc) (Rl.enc (swapN d a b k)[i]!))) := hid (by
        show SWK Rl.enc kc w0 blk off (swp (swapN d a b k) (a + k) (b + k)) _
        rw [hi, hj]
        exact S1.out.swapped R i j (by omega) (by omega))
      generalize swapN d a b k = dk at S1 S2' hz
      go_wp2_with fail
      have ra : IntKind.i64.wrap ((a : Int) + (k : Int)) = (i : Int) := by rw [IntKind.wrap_i64]; omega
      have rb : IntKind.i64.wrap ((b : Int) + (k : Int)) = (j : Int) := by rw [IntKind.wrap_i64]; omega
      have ea : ((i : Int)).toNat = i := by omega
      have pa : (0 : Int) ≤ (i : Int) := by omega
      have ba : (i : Int) < (N : Int) := by omega
      have eb : ((j : Int)).toNat = j := by omega
      have pb : (0 : Int) ≤ (j : Int) := by omega
      have bb : (j : Int) < (N : Int) := by omega
      have la := S1.out.ld1 R (by omega) P i (by omega)
      have lb := S1.out.ld1 R (by omega) P j (by omega)
      have sa := S1.out.st1 R (by omega) P i (by omega) dk[j]!
      have sb := S1.out.st2 R (by omega) P i j (by omega) (by omega) dk[j]! dk[i]!
      have na : (Rl.enc dk[i]!).length = kc := R.hk _
      have nb : (Rl.enc dk[j]!).length = kc := R.hk _
      generalize Rl.enc dk[i]! = cI at S2' la sb na
      generalize Rl.enc dk[j]! = cJ at S2' lb sa sb nb
      clear S1
      go_big_region_o
      clear la lb sa sb
      generalize (wr.drew.setCells blk (off + i * kc) cJ).setCells blk (off + j * kc) cI = w2 at S2' ⊢
      go_wp2_with fail
      go_roundw
      case rel => exact ⟨k + 1, by omega, by go_num, S2'⟩
      case measure => simp [intOf]; omega
    · obtain rfl : k = n := by omega
      go_wp2_with fail
      go_end0
      exact ⟨rfl, S1.out⟩
theorem swapRange_any (blk off cap a b n : Nat) (d0 d : Array Rl) (w0 w : World) (R : RowK Rl.enc 10 w0 blk off d0) (hs : d.size = d0.size) (S : SWK Rl.enc 10 w0 blk off d w) (ha : a + n ≤ d.size) (hb : b + n ≤ d.size) (hsz : d.size < 4611686018427387904) :
    Calls Try.prog 248 #[.slice (some ⟨blk, off, none⟩) d.size cap, .int .i64 a, .int .i64 b, .int .i64 n, .func (.func 110) #[] #[]] w fun e w' => e = .returned (.tuple #[]) ∧ SWK Rl.enc 10 w0 blk off (swapN d a b n) w' :=
  swapRange_gen Try.func248 10 layR blk off cap a b n d0 d w0 w R hs S ha hb hsz
end C12
end Go.Proofs.Ytmmmaldpalhjeaa
namespace Go.Proofs.Ytmmmaldpalhjeaa
open Go.RowKit Go.Peri Go.Shelf Go.Lib Go.Sort
namespace C12
theorem swapN_at : ∀ (n : Nat) (p x m y r : List Rl) (a b : Nat), p.length = a → x.length = n → a + n + m.length = b → y.length = n → swapN (p ++ (x ++ (m ++ (y ++ r)))).toArray a b n = (p ++ (y ++ (m ++ (x ++ r)))).toArray
  | 0, p, x, m, y, r, a, b, _, hx, _, hy => by
    rw [List.length_eq_zero_iff.1 hx, List.length_eq_zero_iff.1 hy]
    rfl
  | n + 1, p, x, m, y, r, a, b, ha, hx, hb, hy => by
    have hx0 : x ≠ [] := by intro h; rw [h] at hx; simp at hx
    have hy0 : y ≠ [] := by intro h; rw [h] at hy; simp at hy
    obtain ⟨x', u, rfl⟩ : ∃ x' u, x = x' ++ [u] := ⟨x.dropLast, x.getLast hx0, (List.dropLast_concat_getLast hx0).symm⟩
    obtain ⟨y', v, rfl⟩ : ∃ y' v, y = y' ++ [v] := ⟨y.dropLast, y.getLast hy0, (List.dropLast_concat_getLast hy0).symm⟩
    have hx' : x'.length = n := by simpa using hx
    have hy' : y'.length = n := by simpa using hy
    have ih := swapN_at n p x' (u :: m) y' (v :: r) a b ha hx' (by rw [List.length_cons]; omega) hy'
    have e1 : p ++ (x' ++ [u] ++ (m ++ (y' ++ [v] ++ r))) = p ++ (x' ++ (u :: m ++ (y' ++ v :: r))) := by simp
    show swp (swapN _ a b n) (a + n) (b + n) = _
    rw [e1, ih]
    have e2 : p ++ (y' ++ (u :: m ++ (x' ++ v :: r))) = (p ++ y') ++ u :: ((m ++ x') ++ v :: r) := by simp
    rw [e2, Srt.swp_at (p ++ y') (m ++ x') r u v (a + n) (b + n) (by rw [List.length_append]; omega) (by rw [List.length_append]; omega)]
    simp
theorem swapL_any (blk off cap N a b n : Nat) (d0 : Array Rl) (w0 w : World) (R : RowK Rl.enc 10 w0 blk off d0) (p x m y r : List Rl) (hN : N = d0.size) (hL : p.length + (x.length + (m.length + (y.length + r.length))) = N) (ha : p.length = a) (hx : x.length = n) (hb : a + n + m.length = b) (hy : y.length = n) (hsz : N < 4611686018427387904)
    (S : SWK Rl.enc 10 w0 blk off (p ++ (x ++ (m ++ (y ++ r)))).toArray w) :
    Calls Try.prog 248 #[.slice (some ⟨blk, off, none⟩) N cap, .int .i64 a, .int .i64 b, .int .i64 n, .func (.func 110) #[] #[]] w fun e w' => e = .returned (.tuple #[]) ∧ SWK Rl.enc 10 w0 blk off (p ++ (y ++ (m ++ (x ++ r)))).toArray w' := by
  have hs : (p ++ (x ++ (m ++ (y ++ r)))).toArray.size = N := by simp only [List.size_toArray, List.length_append]; exact hL
  have h := swapRange_any blk off cap a b n d0 _ w0 w R (hs.trans hN) S (by rw [hs]; omega) (by rw [hs]; omega) (by rw [hs]; exact hsz)
  rw [hs, swapN_at n p x m y r a b ha hx hb hy] at h
  exact h
set_option maxHeartbeats 4000000 in
set_option maxRecDepth 1000000 in
theorem rotate_any (blk off cap N a m b : Nat) (d0 : Array Rl) (w0 w : World) (R : RowK Rl.enc 10 w0 blk off d0) (A U V B : List Rl) (hN : N = d0.size) (hL : A.length + (U.length + (V.length + B.length)) = N) (ha : A.length = a) (hm : a + U.length = m) (hb : m + V.length = b) (hU : 0 < U.length) (hV : 0 < V.length) (hsz : N < 4611686018427387904)
    (S : SWK Rl.enc 10 w0 blk off (A ++ (U ++ (V ++ B))).toArray w) :
    Calls Try.prog 234 #[.slice (some ⟨blk, off, none⟩) N cap, .int .i64 a, .int .i64 m, .int .i64 b, .func (.func 110) #[] #[]] w fun e w' => e = .returned (.tuple #[]) ∧ SWK Rl.enc 10 w0 blk off (A ++ (V ++ (U ++ B))).toArray w' := by
  obtain ⟨T, hT⟩ : ∃ T, A ++ (V ++ (U ++ B)) = T := ⟨_, rfl⟩
  rw [hT]
  have HS := hid (fun (n a b : Nat) (w : World) (p x m y r : List Rl) => swapL_any blk off cap N a b n d0 w0 w R p x m y r hN)
  obtain ⟨i0, hi0⟩ : ∃ i, m - a = i := ⟨_, rfl⟩
  obtain ⟨j0, hj0⟩ : ∃ j, b - m = j := ⟨_, rfl⟩
  have HST : Hid (∃ A U V B : List Rl, A.length + U.length = m ∧ U.length = i0 ∧ V.length = j0 ∧ A.length + (U.length + (V.length + B.length)) = N ∧ A ++ (V ++ (U ++ B)) = T ∧ SWK Rl.enc 10 w0 blk off (A ++ (U ++ (V ++ B))).toArray w) := hid ⟨A, U, V, B, by omega, by omega, by omega, hL, hT, S⟩
  have hi0' : 0 < i0 := by omega
  have hj0' : 0 < j0 := by omega
  have hmN : m ≤ N := by omega
  have r0 : IntKind.i64.wrap ((m : Int) - (a : Int)) = (i0 : Int) := by rw [IntKind.wrap_i64]; omega
  have r1 : IntKind.i64.wrap ((b : Int) - (m : Int)) = (j0 : Int) := by rw [IntKind.wrap_i64]; omega
  clear S hT hU hV hL ha hm hb hi0 hj0 hN
  clear A U V B
  go_enter Try.func234, Try.ntmps234
  go_wp2_with fail
  go_loopw [10, 11] (fun s t wr => ∃ i j : Nat, s = .int .i64 i ∧ t = .int .i64 j ∧ 0 < i ∧ 0 < j ∧ Hid (∃ A U V B : List Rl, A.length + U.length = m ∧ U.length = i ∧ V.length = j ∧ A.length + (U.length + (V.length + B.length)) = N ∧ A ++ (V ++ (U ++ B)) = T ∧ SWK Rl.enc 10 w0 blk off (A ++ (U ++ (V ++ B))).toArray wr)) (fun s t _ => (intOf s).toNat + (intOf t).toNat)
  case atStart => exact ⟨i0, j0, rfl, rfl, hi0', hj0', HST⟩
  case round =>
    clear HST r0 r1 hi0' hj0'
    obtain ⟨i, j, rfl, rfl, hi, hj, hh⟩ := hrel
    obtain ⟨A, U, V, B, h1, h2, h3, h4, h5, h6⟩ := hh.out
    have H5 := hid h5
    have H6 := hid h6
    clear hh h5 h6
    have e0 : IntKind.i64.wrap ((m : Int) - (i : Int)) = ((m - i : Nat) : Int) := by rw [IntKind.wrap_i64]; omega
    obtain ⟨q, hq⟩ : ∃ q, m - i = q := ⟨_, rfl⟩
    rw [hq] at e0
    by_cases hij : i = j
    · subst hij
      have HC := hid (HS.out i q m wr A U [] V B (by simp; omega) (by omega) h2 (by simp; omega) (by omega) hsz H6.out)
      go_wp2_with fail
      refine HC.out.mono ?_
      rintro e w2 ⟨rfl, hs2⟩
      rw [List.nil_append, H5.out] at hs2
      have HS2 := hid hs2
      clear hs2 HC
      go_wp2_with fail
      go_end0
      exact ⟨rfl, HS2.out⟩
    have g0 : ((i : Int) != (j : Int)) = true := by simp; omega
    by_cases hgt : j < i
    · have g1 : decide ((j : Int) < (i : Int)) = true := decide_eq_true (by omega)
      have e1 : IntKind.i64.wrap ((i : Int) - (j : Int)) = ((i - j : Nat) : Int) := by rw [IntKind.wrap_i64]; omega
      obtain ⟨s, hs⟩ : ∃ s, i - j = s := ⟨_, rfl⟩
      rw [hs] at e1
      obtain ⟨U1, U2, rfl, hu1⟩ : ∃ U1 U2, U = U1 ++ U2 ∧ U1.length = j := ⟨U.take j, U.drop j, (List.take_append_drop j U).symm, by rw [List.length_take]; omega⟩
      rw [List.length_append] at h1 h2 h4
      have hS6 := H6.out
      rw [List.append_assoc] at hS6
      have HC := hid (HS.out j q m wr A U1 U2 V B (by omega) (by omega) hu1 (by omega) h3 hsz hS6)
      clear hS6
      go_wp2_with fail
      refine HC.out.mono ?_
      rintro e w2 ⟨rfl, hs2⟩
      have HF : Hid (∃ A U V B : List Rl, A.length + U.length = m ∧ U.length = s ∧ V.length = j ∧ A.length + (U.length + (V.length + B.length)) = N ∧ A ++ (V ++ (U ++ B)) = T ∧ SWK Rl.enc 10 w0 blk off (A ++ (U ++ (V ++ B))).toArray w2) := hid ⟨A ++ V, U2, U1, B, by rw [List.length_append]; omega, by omega, hu1, by rw [List.length_append]; omega, by rw [← H5.out]; simp, by rw [List.append_assoc]; exact hs2⟩
      clear hs2 HC
      go_wp2_with fail
      go_roundw
      case rel => exact ⟨s, j, rfl, rfl, by omega, hj, HF⟩
      case measure => simp [intOf]; omega
    · have g1 : decide ((j : Int) < (i : Int)) = false := decide_eq_false (by omega)
      have e1 : IntKind.i64.wrap ((j : Int) - (i : Int)) = ((j - i : Nat) : Int) := by rw [IntKind.wrap_i64]; omega
      obtain ⟨s, hs⟩ : ∃ s, j - i = s := ⟨_, rfl⟩
      rw [hs] at e1
      have e2 : IntKind.i64.wrap ((m : Int) + (j : Int)) = ((m + j : Nat) : Int) := by rw [IntKind.wrap_i64]; omega
      obtain ⟨z, hz⟩ : ∃ z, m + j = z := ⟨_, rfl⟩
      rw [hz] at e2
      have e3 : IntKind.i64.wrap ((z : Int) - (i : Int)) = ((z - i : Nat) : Int) := by rw [IntKind.wrap_i64]; omega
      obtain ⟨y, hy⟩ : ∃ y, z - i = y := ⟨_, rfl⟩
      rw [hy] at e3
      obtain ⟨V1, V2, rfl, hv1⟩ : ∃ V1 V2, V = V1 ++ V2 ∧ V1.length = s := ⟨V.take s, V.drop s, (List.take_append_drop s V).symm, by rw [List.length_take]; omega⟩
      rw [List.length_append] at h3 h4
      have hS6 := H6.out
      rw [List.append_assoc] at hS6
      have HC := hid (HS.out i q y wr A U V1 V2 B (by omega) (by omega) h2 (by omega) (by omega) hsz hS6)
      clear hS6
      go_wp2_with fail
      refine HC.out.mono ?_
      rintro e w2 ⟨rfl, hs2⟩
      have HF : Hid (∃ A U V B : List Rl, A.length + U.length = m ∧ U.length = i ∧ V.length = s ∧ A.length + (U.length + (V.length + B.length)) = N ∧ A ++ (V ++ (U ++ B)) = T ∧ SWK Rl.enc 10 w0 blk off (A ++ (U ++ (V ++ B))).toArray w2) := hid ⟨A, V2, V1, U ++ B, by omega, by omega, hv1, by rw [List.length_append]; omega, by rw [← H5.out]; simp, hs2⟩
      clear hs2 HC
      go_wp2_with fail
      go_roundw
      case rel => exact ⟨i, s, rfl, rfl, hi, by omega, HF⟩
      case measure => simp [intOf]; omega
end C12
end Go.Proofs.Ytmmmaldpalhjeaa
namespace Go.Peri
namespace Srt
section
variable {α : Type} (f : α → Int)
theorem falls_take (l : List α) (h : Falls f l) (s : Nat) : Falls f (l.take s) :=
  falls_left f (l.take s) (l.drop s) (by rw [List.take_append_drop]; exact h)
theorem falls_drop (l : List α) (h : Falls f l) (s : Nat) : Falls f (l.drop s) :=
  falls_right f (l.take s) (l.drop s) (by rw [List.take_append_drop]; exact h)
variable [Inhabited α]
theorem falls_behind (l : List α) (h : Falls f l) (t : Nat) (ht : t < l.length) : ∀ g ∈ l.drop t, f g ≤ f l[t]! := by
  intro g hg
  have hd := falls_drop f l h t
  rw [List.drop_eq_getElem_cons ht] at hd hg
  rw [getElem!_pos l t ht]
  rcases List.mem_cons.1 hg with rfl | hg
  · exact Int.le_refl _
  · exact hd.1 g hg
theorem falls_ahead (l : List α) (h : Falls f l) (s : Nat) (h0 : 0 < s) (hs : s ≤ l.length) : ∀ e ∈ l.take s, f l[s - 1]! ≤ f e := by
  intro e he
  have hm : l[s - 1]! ∈ l.drop (s - 1) := by
    rw [getElem!_pos l (s - 1) (by omega), List.drop_eq_getElem_cons (show s - 1 < l.length by omega)]
    exact List.mem_cons_self
  have e1 : l.take s = l.take (s - 1) ++ [l[s - 1]!] := by
    rw [getElem!_pos l (s - 1) (by omega)]
    conv => lhs; rw [show s = s - 1 + 1 by omega]
    rw [List.take_succ_eq_append_getElem (by omega)]
  rw [e1] at he
  rcases List.mem_append.1 he with he | he
  · exact falls_cross f (l.take (s - 1)) (l.drop (s - 1)) (by rw [List.take_append_drop]; exact h) e he _ hm
  · rw [List.mem_singleton.1 he]; exact Int.le_refl _
theorem cut_both (x y : List α) (hx : Falls f x) (hy : Falls f y) (s t : Nat) (hs : s ≤ x.length) (ht : t ≤ y.length) (hA : s = 0 ∨ t = y.length ∨ f y[t]! ≤ f x[s - 1]!) (hB : t = 0 ∨ s = x.length ∨ f x[s]! < f y[t - 1]!) :
    order f (x.take s ++ y.take t) ++ order f (x.drop s ++ y.drop t) = order f (x ++ y) := by
  have h := order_split f (x.take s) (x.drop s) (y.take t) (y.drop t) (by rw [List.take_append_drop]; exact hx) (by rw [List.take_append_drop]; exact hy) ?_ ?_
  · rw [h, List.take_append_drop, List.take_append_drop]
  · intro e he g hg
    by_cases h1 : s = 0
    · rw [h1] at he; simp at he
    by_cases h2 : t = y.length
    · rw [h2] at hg; simp at hg
    have h3 : f y[t]! ≤ f x[s - 1]! := by
      rcases hA with h | h | h
      · exact absurd h h1
      · exact absurd h h2
      · exact h
    have := falls_behind f y hy t (by omega) g hg
    have := falls_ahead f x hx s (by omega) hs e he
    omega
  · intro e he g hg
    by_cases h1 : t = 0
    · rw [h1] at hg; simp at hg
    by_cases h2 : s = x.length
    · rw [h2] at he; simp at he
    have h3 : f x[s]! < f y[t - 1]! := by
      rcases hB with h | h | h
      · exact absurd h h1
      · exact absurd h h2
      · exact h
    have := falls_behind f x hx s (by omega) e he
    have := falls_ahead f y hy t (by omega) ht g hg
    omega
/-- One element ahead of a row. -/
theorem cut_left (u : α) (y : List α) (hy : Falls f y) (t : Nat) (ht : t ≤ y.length) (h1 : t = 0 ∨ f u < f y[t - 1]!) (h2 : t = y.length ∨ ¬ f u < f y[t]!) : order f (u :: y) = y.take t ++ u :: y.drop t := by
  have h := cut_both f [u] y ⟨by simp, trivial⟩ hy 0 t (by simp) ht (Or.inl rfl) (by rcases h1 with h | h; exact Or.inl h; exact Or.inr (Or.inr h))
  rw [List.take_zero, List.nil_append, List.drop_zero, order_self f _ (falls_take f y hy t), List.singleton_append] at h
  rw [List.singleton_append] at h
  rw [← h]
  congr 1
  refine (order_self f _ ⟨fun g hg => ?_, falls_drop f y hy t⟩)
  by_cases h3 : t = y.length
  · rw [h3] at hg; simp at hg
  have := falls_behind f y hy t (by omega) g hg
  rcases h2 with h | h
  · exact absurd h h3
  · omega
/-- One element behind a row. -/
theorem cut_right (v : α) (x : List α) (hx : Falls f x) (s : Nat) (hs : s ≤ x.length) (h1 : s = 0 ∨ ¬ f x[s - 1]! < f v) (h2 : s = x.length ∨ f x[s]! < f v) : order f (x ++ [v]) = x.take s ++ v :: x.drop s := by
  have h := cut_both f x [v] hx ⟨by simp, trivial⟩ s 1 hs (by simp) (Or.inr (Or.inl rfl)) (by rcases h2 with h | h; exact Or.inr (Or.inl h); exact Or.inr (Or.inr h))
  rw [← h]
  have e1 : order f (x.take s ++ [v].take 1) = x.take s ++ [v] := by
    refine order_self f _ (falls_append f _ _ (falls_take f x hx s) ⟨by simp, trivial⟩ (fun e he g hg => ?_))
    rw [List.mem_singleton.1 hg]
    by_cases h3 : s = 0
    · rw [h3] at he; simp at he
    have := falls_ahead f x hx s (by omega) hs e he
    rcases h1 with h | h
    · exact absurd h h3
    · omega
  have e2 : order f (x.drop s ++ [v].drop 1) = x.drop s := by
    rw [show [v].drop 1 = [] from rfl, List.append_nil]
    exact order_self f _ (falls_drop f x hx s)
  rw [e1, e2]
  simp
end
end Srt
end Go.Peri
namespace Go.Proofs.Ytmmmaldpalhjeaa
open Go.RowKit Go.Peri Go.Shelf Go.Lib Go.Sort
namespace C12
/-- What a walk with halves is told of a program besides. -/
structure LayU (P : Program) : Prop where
  tu : P.underlying 261 = some (.int .u64)
  au : ∀ w, (isAgg 261).run P w = .ok false w
  zu : ∀ w, (Go.sizeOf 261).run P w = .ok 1 w
  vu : ∀ w, (zeroValue 261).run P w = .ok (.int .u64 0) w
theorem layU : LayU Try.prog := ⟨Try.underlying261, Try.isAgg261, Try.sizeOf261, Try.zeroValue261⟩
theorem cmp_sw (blk off n : Nat) (w : World) : CmpLays Try.prog 110 #[] Rl.enc 10 cf blk off n w := fun _ _ _ _ x y => cmp_lays x y _
theorem rank_lt (x y : Rl) : (cf x y < 0) ↔ y.rank < x.rank := by
  have := cf_lt x y
  unfold ltOf at this
  simpa using this
theorem swapN_succ (d : Array Rl) (a b n : Nat) : swapN d a b (n + 1) = swp (swapN d a b n) (a + n) (b + n) := rfl
set_option maxHeartbeats 4000000 in
set_option maxRecDepth 1000000 in
/-- One rule ahead of a row. -/
theorem symLeft_gen {P : Program} (FG : P.funcs[(194 : Nat)]? = some Try.f194) (kc : Nat) (L : LayR P kc) (LU : LayU P) (eg : ∀ args w, (callFunc 110 args).run P w = .ok (.enter 110 args) w)
    (blk off cap N a m b : Nat) (d0 D : Array Rl) (w0 w : World) (hcmp : CmpLays P 110 #[] Rl.enc kc cf blk off N w0) (R : RowK Rl.enc kc w0 blk off d0) (hN : d0.size = N) (hD : D.size = N) (hm : a + 1 = m) (hb : m ≤ b) (hbN : b ≤ N) (hsz : N < 4611686018427387904)
    (S : SWK Rl.enc kc w0 blk off D w) :
    Calls P 194 #[.slice (some ⟨blk, off, none⟩) N cap, .int .i64 a, .int .i64 m, .int .i64 b, .func (.func 110) #[] #[]] w fun e w' => e = .returned (.tuple #[]) ∧ ∃ i, m ≤ i ∧ i ≤ b ∧ (i = m ∨ D[a]!.rank < D[i - 1]!.rank) ∧ (i = b ∨ D[i]!.rank ≤ D[a]!.rank) ∧ SWK Rl.enc kc w0 blk off (swapN D a (a + 1) (i - 1 - a)) w' := by
  have mixed := L.mixed; have t0 := L.t0; have a0 := L.a0; have z0 := L.z0; have v0 := L.v0; have t3 := L.t3; have a3 := L.a3; have z3 := L.z3; have v3 := L.v3; have t4 := L.t4; have a4 := L.a4; have z4 := L.z4; have v4 := L.v4; have t22 := L.t22; have a22 := L.a22; have z22 := L.z22; have v22 := L.v22; have aE := L.aE; have zE := L.zE
  have tu := LU.tu; have au := LU.au; have zu := LU.zu; have vu := LU.vu
  clear L LU
  have HC := hid hcmp
  have HNN := hid hN
  have HDD := hid hD
  have S0 := hid S
  clear S hcmp hN hD
  have r0 : IntKind.i64.wrap ((m : Int) - (a : Int)) = 1 := by rw [IntKind.wrap_i64]; omega
  have HM := hid hm
  clear hm
  go_enter FG, Try.ntmps194
  go_wp2_with fail
  go_loopw [10, 11] (fun s t wr => ∃ i j : Nat, s = .int .i64 i ∧ t = .int .i64 j ∧ m ≤ i ∧ i ≤ j ∧ j ≤ b ∧ Hid (i = m ∨ D[a]!.rank < D[i - 1]!.rank) ∧ Hid (j = b ∨ D[j]!.rank ≤ D[a]!.rank) ∧ Hid (SWK Rl.enc kc w0 blk off D wr)) (fun s t _ => (intOf t).toNat - (intOf s).toNat)
  case atStart => exact ⟨m, b, rfl, rfl, Nat.le_refl _, hb, Nat.le_refl _, hid (Or.inl rfl), hid (Or.inl rfl), S0⟩
  case round =>
    clear S0 r0
    obtain ⟨i, j, rfl, rfl, h1, h2, h3, HI, HJ, S1⟩ := hrel
    have hma := HM.out
    have hDs := HDD.out
    have hNs := HNN.out
    by_cases hij : i < j
    · have g0 : decide ((i : Int) < (j : Int)) = true := decide_eq_true (by omega)
      have e0 : IntKind.i64.wrap ((i : Int) + (j : Int)) = ((i + j : Nat) : Int) := by rw [IntKind.wrap_i64]; omega
      obtain ⟨s, hs⟩ : ∃ s, i + j = s := ⟨_, rfl⟩
      rw [hs] at e0
      have e1 : IntKind.u64.wrap (s : Int) = (s : Int) := by rw [IntKind.wrap_u64]; omega
      obtain ⟨h, hh⟩ : ∃ h, s / 2 = h := ⟨_, rfl⟩
      have e2 : ((s : Int) / 2) = (h : Int) := by omega
      have e3 : IntKind.u64.wrap (h : Int) = (h : Int) := by rw [IntKind.wrap_u64]; omega
      have e4 : IntKind.i64.wrap (h : Int) = (h : Int) := by rw [IntKind.wrap_i64]; omega
      have ea : ((h : Int)).toNat = h := by omega
      have pa : (0 : Int) ≤ (h : Int) := by omega
      have ba : (h : Int) < (N : Int) := by omega
      have ec : ((a : Int)).toNat = a := by omega
      have pc : (0 : Int) ≤ (a : Int) := by omega
      have bc : (a : Int) < (N : Int) := by omega
      obtain ⟨x, hx⟩ : ∃ x, x = D[h]! := ⟨_, rfl⟩
      obtain ⟨y, hy⟩ : ∃ y, y = D[a]! := ⟨_, rfl⟩
      have la := S1.out.ld R (by omega) P h (by omega)
      have lb := S1.out.ld R (by omega) P a (by omega)
      rw [← hx] at la
      rw [← hy] at lb
      have hc := S1.out.cmp HC.out hDs x y
      have HX := hid hx
      have HY := hid hy
      have h4 : i ≤ h := by omega
      have h5 : h < j := by omega
      clear hx hy hma hDs hNs hs hh
      by_cases hv : cf x y < 0
      · have hd : decide (cf x y < 0) = true := decide_eq_true hv
        have HV : Hid (D[a]!.rank < D[h + 1 - 1]!.rank) := hid (by rw [Nat.add_sub_cancel, ← HX.out, ← HY.out]; exact (rank_lt x y).1 hv)
        go_wp2_with fail
        go_quiet_grown (first | (go_at_fn 110; refine Calls.grown_of (hc _ _)))
        have S2 : Hid (SWK Rl.enc kc w0 blk off D (grow (wr.drewN nq) osq)) := hid (S1.out.grown nq osq)
        clear la lb hc S1
        generalize grow (wr.drewN nq) osq = w2 at S2 ⊢
        clear nq osq
        go_wp2_with fail
        go_roundw
        case rel => exact ⟨h + 1, j, by go_num, rfl, by omega, by omega, h3, hid (Or.inr HV.out), HJ, S2⟩
        case measure => simp [intOf]; omega
      · have hd : decide (cf x y < 0) = false := decide_eq_false hv
        have HV : Hid (D[h]!.rank ≤ D[a]!.rank) := hid (by rw [← HX.out, ← HY.out]; exact Int.not_lt.1 (fun hq => hv ((rank_lt x y).2 hq)))
        go_wp2_with fail
        go_quiet_grown (first | (go_at_fn 110; refine Calls.grown_of (hc _ _)))
        have S2 : Hid (SWK Rl.enc kc w0 blk off D (grow (wr.drewN nq) osq)) := hid (S1.out.grown nq osq)
        clear la lb hc S1
        generalize grow (wr.drewN nq) osq = w2 at S2 ⊢
        clear nq osq
        go_wp2_with fail
        go_roundw
        case rel => exact ⟨i, h, rfl, rfl, h1, h4, by omega, HI, hid (Or.inr HV.out), S2⟩
        case measure => simp [intOf]; omega
    · obtain rfl : i = j := by omega
      obtain ⟨p, hp⟩ : ∃ p, i - 1 = p := ⟨_, rfl⟩
      have e0 : IntKind.i64.wrap ((i : Int) - 1) = (p : Int) := by rw [IntKind.wrap_i64]; omega
      have hap : a ≤ p := by omega
      have hpN : p < N := by omega
      have HFI : Hid (∀ w', SWK Rl.enc kc w0 blk off (swapN D a (a + 1) (p - a)) w' → ∃ i, m ≤ i ∧ i ≤ b ∧ (i = m ∨ D[a]!.rank < D[i - 1]!.rank) ∧ (i = b ∨ D[i]!.rank ≤ D[a]!.rank) ∧ SWK Rl.enc kc w0 blk off (swapN D a (a + 1) (i - 1 - a)) w') := hid (fun w' h => ⟨i, h1, h3, HI.out, HJ.out, by rw [hp]; exact h⟩)
      have HSZ := hid (size_swapN D a (a + 1))
      have HPM : Hid (p + 1 ≤ N) := hid (by omega)
      clear hma hDs hNs h1 h2 h3 hij hp HI HJ
      go_wp2_with fail
      go_loopw [13] (fun s wz => ∃ k n : Nat, s = .int .i64 k ∧ a + n = k ∧ k ≤ p ∧ Hid (SWK Rl.enc kc w0 blk off (swapN D a (a + 1) n) wz)) (fun s _ => p - (intOf s).toNat)
      case atStart => exact ⟨a, 0, rfl, rfl, hap, S1⟩
      case round =>
        clear S1
        obtain ⟨k, n, rfl, hk1, hk2, S1⟩ := hrel
        by_cases hlt : k < p
        · have g0 : decide ((k : Int) < (p : Int)) = true := decide_eq_true (by omega)
          obtain ⟨j, hj⟩ : ∃ j, k + 1 = j := ⟨_, rfl⟩
          have hz := (HSZ.out n).trans (HDD.out.trans HNN.out.symm)
          have hNs := HNN.out
          have hk' : k < d0.size := by omega
          have hj' : j < d0.size := by omega
          have hjp : a + (n + 1) = j ∧ j ≤ p := by omega
          have e9 : a + 1 + n = j := by omega
          have S2' : Hid (SWK Rl.enc kc w0 blk off (swapN D a (a + 1) (n + 1)) ((wr.drew.setCells blk (off + k * kc) (Rl.enc (swapN D a (a + 1) n)[j]!)).setCells blk (off + j * kc) (Rl.enc (swapN D a (a + 1) n)[k]!))) := hid (by
            rw [swapN_succ, hk1, e9]
            exact S1.out.swapped R k j (by rw [hz]; exact hk') (by rw [hz]; exact hj'))
          generalize swapN D a (a + 1) n = dk at S1 S2' hz
          have ra : IntKind.i64.wrap ((k : Int) + 1) = (j : Int) := by rw [IntKind.wrap_i64]; omega
          have ea : ((k : Int)).toNat = k := by omega
          have pa : (0 : Int) ≤ (k : Int) := by omega
          have ba : (k : Int) < (N : Int) := by omega
          have eb : ((j : Int)).toNat = j := by omega
          have pb : (0 : Int) ≤ (j : Int) := by omega
          have bb : (j : Int) < (N : Int) := by omega
          have la := S1.out.ld1 R hz P k (by rw [hz]; exact hk')
          have lb := S1.out.ld1 R hz P j (by rw [hz]; exact hj')
          have sa := S1.out.st1 R hz P k (by rw [hz]; exact hk') dk[j]!
          have sb := S1.out.st2 R hz P k j (by rw [hz]; exact hk') (by rw [hz]; exact hj') dk[j]! dk[k]!
          have na : (Rl.enc dk[k]!).length = kc := R.hk _
          have nb : (Rl.enc dk[j]!).length = kc := R.hk _
          generalize Rl.enc dk[k]! = cI at S2' la sb na
          generalize Rl.enc dk[j]! = cJ at S2' lb sa sb nb
          clear S1 hz hNs hk' hj' e9 hk1
          have HJK := hid hj
          clear hj
          go_wp2_with fail
          go_big_region_o
          clear la lb sa sb
          generalize (wr.drew.setCells blk (off + k * kc) cJ).setCells blk (off + j * kc) cI = w2 at S2' ⊢
          go_wp2_with fail
          go_roundw
          case rel => exact ⟨j, n + 1, rfl, hjp.1, hjp.2, S2'⟩
          case measure =>
            have := HJK.out
            simp [intOf]; omega
        · obtain rfl : k = p := by omega
          go_wp2_with fail
          obtain rfl : n = k - a := by omega
          refine bodyPost_ret (by simp [results, Try.results194, go_sem]; try rfl) rfl ?_
          exact ⟨rfl, HFI.out _ S1.out⟩
end C12
end Go.Proofs.Ytmmmaldpalhjeaa
