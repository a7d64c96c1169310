/- Walks of layer 12 (rule): First; no condition. Walks of the laws of layers 12 and 14: few and short names; no condition. Walks of the laws of layer 14: few and short names; no condition. Walks of layer 14 (table): few configs; what must come of fixed calls; no condition. Walks of layer 14 (table): what must come of fixed calls; no condition. -/
import Derived.Test.YtmmmaldpalhjeaaMg11
import Derived.Deep.Cut
import Derived.Test.YtmmmaldpalhjeaaMg06
import Derived.Test.YtmmmaldpalhjeaaMg03
namespace Go.Proofs.Ytmmmaldpalhjeaa
open Go.RowKit Go.Peri
namespace C12
set_option maxRecDepth 100000 in
set_option maxHeartbeats 2000000 in
theorem first_any (v : Value) (l : List Rl) (m h p b : ByteArray) (hs : List Hd) (a0 : Option Addr) (cap0 : Nat) (r : Int) (W : World) (hl : RowsOf (· < W.heap.size) Rl.enc 10 W v l) (hw : ∀ r ∈ l, r.Wf W W.heap.size) (hq : ReqV W W.heap.size m h p b hs a0 cap0) (hn : hs.length ≤ 1000000) (hll : l.length ≤ 10000000000000) (hps : ∀ r ∈ l, r.preds.length ≤ 1000000000) (hr : firstR (fun r => C11.allR m h p hs r.preds) l = r) :
    Calls Try.prog 54 #[v, .agg #[.string m, .string h, .string p, .slice a0 hs.length cap0, .string b]] W fun e w' => e = .returned (.int .i64 r) ∧ Below W.heap.size W w' := by
  obtain ⟨a, cap, rfl, hlc, hcm, _, hcell⟩ := hl
  have HC := hid hcell
  have HR := hid hr
  have HIT := hid (fun (x : Rl) (q : Bool) (w' : World) (hx : x ∈ l) (hh : C11.allR m h p hs x.preds = q) (hb : Below W.heap.size W w') => C16.hits_any x m h p b hs a0 cap0 q w' ((hw x hx).below hb) (hq.below hb) hb.size hn (hps x hx) hh)
  clear hcell hw hq hps hr
  go_enter Try.func54, Try.ntmps54
  go_upto_region 1 with fail
  refine wp_gen ?_
  intro w0 hw0
  have hb0 : Below W.heap.size W w0 := by rw [hw0]; go_grown
  have hk0 : Blk w0 W.heap.size #[.string m, .string h, .string p, .slice a0 hs.length cap0, .string b] 67 := by rw [hw0]; exact Blk.new _ _ _
  clear hw0
  have HB0 := hid hb0
  have HK0 := hid hk0
  have hlt0 := hk0.lt
  clear hb0 hk0
  go_wp2_with fail
  go_loopw [5, 10] (fun best i wr => ∃ k : Nat, k ≤ l.length ∧ i = .int .i64 k ∧ best = .int .i64 (firstI (fun r => C11.allR m h p hs r.preds) l k) ∧ Below w0.heap.size w0 wr) (fun _ i _ => l.length - (intOf i).toNat)
  case atStart => exact ⟨0, Nat.zero_le _, rfl, rfl, Below.refl _ _⟩
  case round =>
    obtain ⟨k, hk, rfl, rfl, hb⟩ := hrel
    have HB := hid hb
    have hws := hb.size
    clear hb
    by_cases hlt : k < l.length
    · obtain ⟨bb, off, rfl, hpb, hc⟩ := HC.out.resolve_left (by intro e; rw [e] at hlt; simp at hlt)
      have HBW : Hid (Below W.heap.size W wr) := HB0.out.trans (HB.out.mono HB0.out.size)
      have hbl : bb < wr.heap.size := Nat.lt_of_lt_of_le hpb HBW.out.size
      obtain ⟨c0, c1, c2, c3, c4, c5, c6, c7, c8, c9⟩ := Rl.cells (fun j u hu => (HBW.out.cell (p := ⟨bb, off + k * 10 + j, none⟩) hpb).trans (hc k hlt j u hu))
      have hkr := HK0.out.later HB.out
      have y0 : wr.cell? ⟨W.heap.size, 0, none⟩ = some (.string m) := hkr.cell 0
      have y1 : wr.cell? ⟨W.heap.size, 1, none⟩ = some (.string h) := hkr.cell 1
      have y2 : wr.cell? ⟨W.heap.size, 2, none⟩ = some (.string p) := hkr.cell 2
      have y3 : wr.cell? ⟨W.heap.size, 3, none⟩ = some (.slice a0 hs.length cap0) := hkr.cell 3
      have y4 : wr.cell? ⟨W.heap.size, 4, none⟩ = some (.string b) := hkr.cell 4
      have hltq := hkr.lt
      clear hkr
      have HFN := hid (firstI_neg (fun r => C11.allR m h p hs r.preds) l k hlt)
      have HFP := hid (fun n hn he => firstI_pos (fun r => C11.allR m h p hs r.preds) l k n hlt hn he)
      obtain ⟨bq, hbq⟩ : ∃ bq, C11.allR m h p hs l[k].preds = bq := ⟨_, rfl⟩
      have HHC := hid (fun w' (hb : Below W.heap.size W w') => HIT.out l[k] bq w' (List.getElem_mem hlt) hbq hb)
      have hbn := firstI_lt (fun r => C11.allR m h p hs r.preds) l k
      have HIX : Hid (∀ n (hn : n < l.length), wr.cell? ⟨bb, off + n * 10, none⟩ = some (.int .i64 l[n].rank)) := hid (fun n hn => (Rl.cells (fun j u hu => (HBW.out.cell (p := ⟨bb, off + n * 10 + j, none⟩) hpb).trans (hc n hn j u hu))).1)
      simp only [hbq] at HFN HFP
      obtain ⟨bst, hbst⟩ : ∃ z, firstI (fun r => C11.allR m h p hs r.preds) l k = z := ⟨_, rfl⟩
      obtain ⟨nxt, hnxt⟩ : ∃ z, firstI (fun r => C11.allR m h p hs r.preds) l (k + 1) = z := ⟨_, rfl⟩
      rw [hnxt, hbst] at HFN
      rw [hbst] at hbn
      rw [hnxt] at HFP
      have HNX := hid hnxt
      have HBS := hid hbst
      rw [hbst]
      have i1 : (0 : Int) ≤ (k : Int) := by omega
      have i2 : (k : Int) < (l.length : Int) := by omega
      clear hbq hnxt hc
      rw [hbst] at HFP
      clear hbst
      generalize l[k] = x at c0 c1 c2 c3 c4 c5 c6 c7 c8 c9 HHC HFP
      by_cases hb0 : bst < 0
      · have HV0 := hid (HFN.out hb0)
        cases bq
        · have HV : Hid (nxt = bst) := hid (by rw [HV0.out]; rfl)
          clear HV0 HFN HFP HIX
          go_upto_region 5 with fail
          refine wp_gen ?_
          intro w1 hw1
          have hb1 : Below wr.heap.size wr w1 := by rw [hw1]; go_grown
          have hx1 : Blk w1 wr.heap.size #[.int .i64 x.rank, .slice x.pa x.preds.length x.pcap, .string x.target, .int .i64 x.ap, .int .i64 x.as_, .int .i64 x.dp, .int .i64 x.dt, .int .i64 x.mp, .string x.mirror, .int .i64 x.sample] 60 := by rw [hw1]; exact Blk.new _ _ _
          have b0 : w1.cell? ⟨wr.heap.size, 0, none⟩ = some (.int .i64 x.rank) := hx1.cell 0
          have b1 : w1.cell? ⟨wr.heap.size, 1, none⟩ = some (.slice x.pa x.preds.length x.pcap) := hx1.cell 1
          have b2 : w1.cell? ⟨wr.heap.size, 2, none⟩ = some (.string x.target) := hx1.cell 2
          have b3 : w1.cell? ⟨wr.heap.size, 3, none⟩ = some (.int .i64 x.ap) := hx1.cell 3
          have b4 : w1.cell? ⟨wr.heap.size, 4, none⟩ = some (.int .i64 x.as_) := hx1.cell 4
          have b5 : w1.cell? ⟨wr.heap.size, 5, none⟩ = some (.int .i64 x.dp) := hx1.cell 5
          have b6 : w1.cell? ⟨wr.heap.size, 6, none⟩ = some (.int .i64 x.dt) := hx1.cell 6
          have b7 : w1.cell? ⟨wr.heap.size, 7, none⟩ = some (.int .i64 x.mp) := hx1.cell 7
          have b8 : w1.cell? ⟨wr.heap.size, 8, none⟩ = some (.string x.mirror) := hx1.cell 8
          have b9 : w1.cell? ⟨wr.heap.size, 9, none⟩ = some (.int .i64 x.sample) := hx1.cell 9
          have hlx := hx1.lt
          have HB1 := hid hb1
          have z0 := (hb1.cell (p := ⟨W.heap.size, 0, none⟩) hltq).trans y0
          have z1 := (hb1.cell (p := ⟨W.heap.size, 1, none⟩) hltq).trans y1
          have z2 := (hb1.cell (p := ⟨W.heap.size, 2, none⟩) hltq).trans y2
          have z3 := (hb1.cell (p := ⟨W.heap.size, 3, none⟩) hltq).trans y3
          have z4 := (hb1.cell (p := ⟨W.heap.size, 4, none⟩) hltq).trans y4
          have hltz : W.heap.size < w1.heap.size := Nat.lt_of_lt_of_le hltq hb1.size
          have hblz : bb < w1.heap.size := Nat.lt_of_lt_of_le hbl hb1.size

          clear hx1 hw1 hb1 c0 c1 c2 c3 c4 c5 c6 c7 c8 c9 y0 y1 y2 y3 y4
          have X : Hid (∀ z : BW w1, Calls Try.prog 49 #[.agg #[.int .i64 x.rank, .slice x.pa x.preds.length x.pcap, .string x.target, .int .i64 x.ap, .int .i64 x.as_, .int .i64 x.dp, .int .i64 x.dt, .int .i64 x.mp, .string x.mirror, .int .i64 x.sample], .agg #[.string m, .string h, .string p, .slice a0 hs.length cap0, .string b]] z.val fun e w' => e = .returned (.bool false) ∧ Below z.val.heap.size z.val w') := hid (fun z => HHC.out z.val ((HBW.out.trans (HB1.out.mono HBW.out.size)).trans (z.prop.mono (HBW.out.trans (HB1.out.mono HBW.out.size)).size)))
          go_wp2_with fail
          refine wp_region_bw (by kernel_rfl) (by kernel_rfl) ?_
          repeat (go_big_quiet_step ((go_at_call 49; exact bw_call (X.out _))))
          refine wpQuiet_nil ?_
          rintro w2 ⟨⟨_, hb2⟩, rfl⟩
          have HB2 : Hid (Below w0.heap.size w0 w2) := HB.out.trans ((HB1.out.trans (hb2.mono HB1.out.size)).mono HB.out.size)
          clear hb2
          go_wp2_with fail
          go_roundw
          case rel => exact ⟨k + 1, by omega, by go_num, by rw [HNX.out, HV.out], HB2.out⟩
          case measure => simp [intOf]; omega
        · have HV : Hid (nxt = k) := hid (by rw [HV0.out]; rfl)
          clear HV0 HFN HFP HIX
          go_upto_region 5 with fail
          refine wp_gen ?_
          intro w1 hw1
          have hb1 : Below wr.heap.size wr w1 := by rw [hw1]; go_grown
          have hx1 : Blk w1 wr.heap.size #[.int .i64 x.rank, .slice x.pa x.preds.length x.pcap, .string x.target, .int .i64 x.ap, .int .i64 x.as_, .int .i64 x.dp, .int .i64 x.dt, .int .i64 x.mp, .string x.mirror, .int .i64 x.sample] 60 := by rw [hw1]; exact Blk.new _ _ _
          have b0 : w1.cell? ⟨wr.heap.size, 0, none⟩ = some (.int .i64 x.rank) := hx1.cell 0
          have b1 : w1.cell? ⟨wr.heap.size, 1, none⟩ = some (.slice x.pa x.preds.length x.pcap) := hx1.cell 1
          have b2 : w1.cell? ⟨wr.heap.size, 2, none⟩ = some (.string x.target) := hx1.cell 2
          have b3 : w1.cell? ⟨wr.heap.size, 3, none⟩ = some (.int .i64 x.ap) := hx1.cell 3
          have b4 : w1.cell? ⟨wr.heap.size, 4, none⟩ = some (.int .i64 x.as_) := hx1.cell 4
          have b5 : w1.cell? ⟨wr.heap.size, 5, none⟩ = some (.int .i64 x.dp) := hx1.cell 5
          have b6 : w1.cell? ⟨wr.heap.size, 6, none⟩ = some (.int .i64 x.dt) := hx1.cell 6
          have b7 : w1.cell? ⟨wr.heap.size, 7, none⟩ = some (.int .i64 x.mp) := hx1.cell 7
          have b8 : w1.cell? ⟨wr.heap.size, 8, none⟩ = some (.string x.mirror) := hx1.cell 8
          have b9 : w1.cell? ⟨wr.heap.size, 9, none⟩ = some (.int .i64 x.sample) := hx1.cell 9
          have hlx := hx1.lt
          have HB1 := hid hb1
          have z0 := (hb1.cell (p := ⟨W.heap.size, 0, none⟩) hltq).trans y0
          have z1 := (hb1.cell (p := ⟨W.heap.size, 1, none⟩) hltq).trans y1
          have z2 := (hb1.cell (p := ⟨W.heap.size, 2, none⟩) hltq).trans y2
          have z3 := (hb1.cell (p := ⟨W.heap.size, 3, none⟩) hltq).trans y3
          have z4 := (hb1.cell (p := ⟨W.heap.size, 4, none⟩) hltq).trans y4
          have hltz : W.heap.size < w1.heap.size := Nat.lt_of_lt_of_le hltq hb1.size
          have hblz : bb < w1.heap.size := Nat.lt_of_lt_of_le hbl hb1.size

          clear hx1 hw1 hb1 c0 c1 c2 c3 c4 c5 c6 c7 c8 c9 y0 y1 y2 y3 y4
          have X : Hid (∀ z : BW w1, Calls Try.prog 49 #[.agg #[.int .i64 x.rank, .slice x.pa x.preds.length x.pcap, .string x.target, .int .i64 x.ap, .int .i64 x.as_, .int .i64 x.dp, .int .i64 x.dt, .int .i64 x.mp, .string x.mirror, .int .i64 x.sample], .agg #[.string m, .string h, .string p, .slice a0 hs.length cap0, .string b]] z.val fun e w' => e = .returned (.bool true) ∧ Below z.val.heap.size z.val w') := hid (fun z => HHC.out z.val ((HBW.out.trans (HB1.out.mono HBW.out.size)).trans (z.prop.mono (HBW.out.trans (HB1.out.mono HBW.out.size)).size)))
          go_wp2_with fail
          refine wp_region_bw (by kernel_rfl) (by kernel_rfl) ?_
          repeat (go_big_quiet_step ((go_at_call 49; exact bw_call (X.out _))))
          refine wpQuiet_nil ?_
          rintro w2 ⟨⟨_, hb2⟩, rfl⟩
          have HB2 : Hid (Below w0.heap.size w0 w2) := HB.out.trans ((HB1.out.trans (hb2.mono HB1.out.size)).mono HB.out.size)
          clear hb2
          go_wp2_with fail
          go_roundw
          case rel => exact ⟨k + 1, by omega, by go_num, by rw [HNX.out, HV.out], HB2.out⟩
          case measure => simp [intOf]; omega
      · obtain ⟨n, rfl⟩ : ∃ n : Nat, bst = n := ⟨bst.toNat, by omega⟩
        have hnl : n < l.length := by omega
        have f0 := HIX.out n hnl
        have HV0 := hid (HFP.out n hnl rfl)
        have j1 : (0 : Int) ≤ (n : Int) := by omega
        have j0 : decide ((n : Int) < 0) = false := decide_eq_false (by omega)
        have j3 : ¬ (n : Int) < 0 := by omega
        have j2 : (n : Int) < (l.length : Int) := by omega
        generalize l[n].rank = rn at f0 HV0
        clear HFN HFP HIX hb0
        cases bq
        · have HV : Hid (nxt = n) := hid (by rw [HV0.out]; simp)
          clear HV0
          by_cases hrk : rn < x.rank
          · go_upto_region 5 with fail
            refine wp_gen ?_
            intro w1 hw1
            have hb1 : Below wr.heap.size wr w1 := by rw [hw1]; go_grown
            have hx1 : Blk w1 wr.heap.size #[.int .i64 x.rank, .slice x.pa x.preds.length x.pcap, .string x.target, .int .i64 x.ap, .int .i64 x.as_, .int .i64 x.dp, .int .i64 x.dt, .int .i64 x.mp, .string x.mirror, .int .i64 x.sample] 60 := by rw [hw1]; exact Blk.new _ _ _
            have b0 : w1.cell? ⟨wr.heap.size, 0, none⟩ = some (.int .i64 x.rank) := hx1.cell 0
            have b1 : w1.cell? ⟨wr.heap.size, 1, none⟩ = some (.slice x.pa x.preds.length x.pcap) := hx1.cell 1
            have b2 : w1.cell? ⟨wr.heap.size, 2, none⟩ = some (.string x.target) := hx1.cell 2
            have b3 : w1.cell? ⟨wr.heap.size, 3, none⟩ = some (.int .i64 x.ap) := hx1.cell 3
            have b4 : w1.cell? ⟨wr.heap.size, 4, none⟩ = some (.int .i64 x.as_) := hx1.cell 4
            have b5 : w1.cell? ⟨wr.heap.size, 5, none⟩ = some (.int .i64 x.dp) := hx1.cell 5
            have b6 : w1.cell? ⟨wr.heap.size, 6, none⟩ = some (.int .i64 x.dt) := hx1.cell 6
            have b7 : w1.cell? ⟨wr.heap.size, 7, none⟩ = some (.int .i64 x.mp) := hx1.cell 7
            have b8 : w1.cell? ⟨wr.heap.size, 8, none⟩ = some (.string x.mirror) := hx1.cell 8
            have b9 : w1.cell? ⟨wr.heap.size, 9, none⟩ = some (.int .i64 x.sample) := hx1.cell 9
            have hlx := hx1.lt
            have HB1 := hid hb1
            have z0 := (hb1.cell (p := ⟨W.heap.size, 0, none⟩) hltq).trans y0
            have z1 := (hb1.cell (p := ⟨W.heap.size, 1, none⟩) hltq).trans y1
            have z2 := (hb1.cell (p := ⟨W.heap.size, 2, none⟩) hltq).trans y2
            have z3 := (hb1.cell (p := ⟨W.heap.size, 3, none⟩) hltq).trans y3
            have z4 := (hb1.cell (p := ⟨W.heap.size, 4, none⟩) hltq).trans y4
            have hltz : W.heap.size < w1.heap.size := Nat.lt_of_lt_of_le hltq hb1.size
            have hblz : bb < w1.heap.size := Nat.lt_of_lt_of_le hbl hb1.size
            have fz := (hb1.cell (p := ⟨bb, off + n * 10, none⟩) hbl).trans f0
            clear f0
            clear hx1 hw1 hb1 c0 c1 c2 c3 c4 c5 c6 c7 c8 c9 y0 y1 y2 y3 y4
            have X : Hid (∀ z : BW w1, Calls Try.prog 49 #[.agg #[.int .i64 x.rank, .slice x.pa x.preds.length x.pcap, .string x.target, .int .i64 x.ap, .int .i64 x.as_, .int .i64 x.dp, .int .i64 x.dt, .int .i64 x.mp, .string x.mirror, .int .i64 x.sample], .agg #[.string m, .string h, .string p, .slice a0 hs.length cap0, .string b]] z.val fun e w' => e = .returned (.bool false) ∧ Below z.val.heap.size z.val w') := hid (fun z => HHC.out z.val ((HBW.out.trans (HB1.out.mono HBW.out.size)).trans (z.prop.mono (HBW.out.trans (HB1.out.mono HBW.out.size)).size)))
            go_wp2_with fail
            refine wp_region_bw (by kernel_rfl) (by kernel_rfl) ?_
            repeat (go_big_quiet_step ((go_at_call 49; exact bw_call (X.out _))))
            refine wpQuiet_nil ?_
            rintro w2 ⟨⟨_, hb2⟩, rfl⟩
            have HB2 : Hid (Below w0.heap.size w0 w2) := HB.out.trans ((HB1.out.trans (hb2.mono HB1.out.size)).mono HB.out.size)
            clear hb2
            go_wp2_with fail
            go_roundw
            case rel => exact ⟨k + 1, by omega, by go_num, by rw [HNX.out, HV.out], HB2.out⟩
            case measure => simp [intOf]; omega
          · have hrd : decide (rn < x.rank) = false := decide_eq_false hrk
            go_upto_region 5 with fail
            refine wp_gen ?_
            intro w1 hw1
            have hb1 : Below wr.heap.size wr w1 := by rw [hw1]; go_grown
            have hx1 : Blk w1 wr.heap.size #[.int .i64 x.rank, .slice x.pa x.preds.length x.pcap, .string x.target, .int .i64 x.ap, .int .i64 x.as_, .int .i64 x.dp, .int .i64 x.dt, .int .i64 x.mp, .string x.mirror, .int .i64 x.sample] 60 := by rw [hw1]; exact Blk.new _ _ _
            have b0 : w1.cell? ⟨wr.heap.size, 0, none⟩ = some (.int .i64 x.rank) := hx1.cell 0
            have b1 : w1.cell? ⟨wr.heap.size, 1, none⟩ = some (.slice x.pa x.preds.length x.pcap) := hx1.cell 1
            have b2 : w1.cell? ⟨wr.heap.size, 2, none⟩ = some (.string x.target) := hx1.cell 2
            have b3 : w1.cell? ⟨wr.heap.size, 3, none⟩ = some (.int .i64 x.ap) := hx1.cell 3
            have b4 : w1.cell? ⟨wr.heap.size, 4, none⟩ = some (.int .i64 x.as_) := hx1.cell 4
            have b5 : w1.cell? ⟨wr.heap.size, 5, none⟩ = some (.int .i64 x.dp) := hx1.cell 5
            have b6 : w1.cell? ⟨wr.heap.size, 6, none⟩ = some (.int .i64 x.dt) := hx1.cell 6
            have b7 : w1.cell? ⟨wr.heap.size, 7, none⟩ = some (.int .i64 x.mp) := hx1.cell 7
            have b8 : w1.cell? ⟨wr.heap.size, 8, none⟩ = some (.string x.mirror) := hx1.cell 8
            have b9 : w1.cell? ⟨wr.heap.size, 9, none⟩ = some (.int .i64 x.sample) := hx1.cell 9
            have hlx := hx1.lt
            have HB1 := hid hb1
            have z0 := (hb1.cell (p := ⟨W.heap.size, 0, none⟩) hltq).trans y0
            have z1 := (hb1.cell (p := ⟨W.heap.size, 1, none⟩) hltq).trans y1
            have z2 := (hb1.cell (p := ⟨W.heap.size, 2, none⟩) hltq).trans y2
            have z3 := (hb1.cell (p := ⟨W.heap.size, 3, none⟩) hltq).trans y3
            have z4 := (hb1.cell (p := ⟨W.heap.size, 4, none⟩) hltq).trans y4
            have hltz : W.heap.size < w1.heap.size := Nat.lt_of_lt_of_le hltq hb1.size
            have hblz : bb < w1.heap.size := Nat.lt_of_lt_of_le hbl hb1.size
            have fz := (hb1.cell (p := ⟨bb, off + n * 10, none⟩) hbl).trans f0
            clear f0
            clear hx1 hw1 hb1 c0 c1 c2 c3 c4 c5 c6 c7 c8 c9 y0 y1 y2 y3 y4
            have X : Hid (∀ z : BW w1, Calls Try.prog 49 #[.agg #[.int .i64 x.rank, .slice x.pa x.preds.length x.pcap, .string x.target, .int .i64 x.ap, .int .i64 x.as_, .int .i64 x.dp, .int .i64 x.dt, .int .i64 x.mp, .string x.mirror, .int .i64 x.sample], .agg #[.string m, .string h, .string p, .slice a0 hs.length cap0, .string b]] z.val fun e w' => e = .returned (.bool false) ∧ Below z.val.heap.size z.val w') := hid (fun z => HHC.out z.val ((HBW.out.trans (HB1.out.mono HBW.out.size)).trans (z.prop.mono (HBW.out.trans (HB1.out.mono HBW.out.size)).size)))
            go_wp2_with fail
            refine wp_region_bw (by kernel_rfl) (by kernel_rfl) ?_
            repeat (go_big_quiet_step ((go_at_call 49; exact bw_call (X.out _))))
            refine wpQuiet_nil ?_
            rintro w2 ⟨⟨_, hb2⟩, rfl⟩
            have HB2 : Hid (Below w0.heap.size w0 w2) := HB.out.trans ((HB1.out.trans (hb2.mono HB1.out.size)).mono HB.out.size)
            clear hb2
            go_wp2_with fail
            go_roundw
            case rel => exact ⟨k + 1, by omega, by go_num, by rw [HNX.out, HV.out], HB2.out⟩
            case measure => simp [intOf]; omega
        · by_cases hrk : rn < x.rank
          · have HV : Hid (nxt = k) := hid (by rw [HV0.out]; simp [hrk])
            clear HV0
            go_upto_region 5 with fail
            refine wp_gen ?_
            intro w1 hw1
            have hb1 : Below wr.heap.size wr w1 := by rw [hw1]; go_grown
            have hx1 : Blk w1 wr.heap.size #[.int .i64 x.rank, .slice x.pa x.preds.length x.pcap, .string x.target, .int .i64 x.ap, .int .i64 x.as_, .int .i64 x.dp, .int .i64 x.dt, .int .i64 x.mp, .string x.mirror, .int .i64 x.sample] 60 := by rw [hw1]; exact Blk.new _ _ _
            have b0 : w1.cell? ⟨wr.heap.size, 0, none⟩ = some (.int .i64 x.rank) := hx1.cell 0
            have b1 : w1.cell? ⟨wr.heap.size, 1, none⟩ = some (.slice x.pa x.preds.length x.pcap) := hx1.cell 1
            have b2 : w1.cell? ⟨wr.heap.size, 2, none⟩ = some (.string x.target) := hx1.cell 2
            have b3 : w1.cell? ⟨wr.heap.size, 3, none⟩ = some (.int .i64 x.ap) := hx1.cell 3
            have b4 : w1.cell? ⟨wr.heap.size, 4, none⟩ = some (.int .i64 x.as_) := hx1.cell 4
            have b5 : w1.cell? ⟨wr.heap.size, 5, none⟩ = some (.int .i64 x.dp) := hx1.cell 5
            have b6 : w1.cell? ⟨wr.heap.size, 6, none⟩ = some (.int .i64 x.dt) := hx1.cell 6
            have b7 : w1.cell? ⟨wr.heap.size, 7, none⟩ = some (.int .i64 x.mp) := hx1.cell 7
            have b8 : w1.cell? ⟨wr.heap.size, 8, none⟩ = some (.string x.mirror) := hx1.cell 8
            have b9 : w1.cell? ⟨wr.heap.size, 9, none⟩ = some (.int .i64 x.sample) := hx1.cell 9
            have hlx := hx1.lt
            have HB1 := hid hb1
            have z0 := (hb1.cell (p := ⟨W.heap.size, 0, none⟩) hltq).trans y0
            have z1 := (hb1.cell (p := ⟨W.heap.size, 1, none⟩) hltq).trans y1
            have z2 := (hb1.cell (p := ⟨W.heap.size, 2, none⟩) hltq).trans y2
            have z3 := (hb1.cell (p := ⟨W.heap.size, 3, none⟩) hltq).trans y3
            have z4 := (hb1.cell (p := ⟨W.heap.size, 4, none⟩) hltq).trans y4
            have hltz : W.heap.size < w1.heap.size := Nat.lt_of_lt_of_le hltq hb1.size
            have hblz : bb < w1.heap.size := Nat.lt_of_lt_of_le hbl hb1.size
            have fz := (hb1.cell (p := ⟨bb, off + n * 10, none⟩) hbl).trans f0
            clear f0
            clear hx1 hw1 hb1 c0 c1 c2 c3 c4 c5 c6 c7 c8 c9 y0 y1 y2 y3 y4
            have X : Hid (∀ z : BW w1, Calls Try.prog 49 #[.agg #[.int .i64 x.rank, .slice x.pa x.preds.length x.pcap, .string x.target, .int .i64 x.ap, .int .i64 x.as_, .int .i64 x.dp, .int .i64 x.dt, .int .i64 x.mp, .string x.mirror, .int .i64 x.sample], .agg #[.string m, .string h, .string p, .slice a0 hs.length cap0, .string b]] z.val fun e w' => e = .returned (.bool true) ∧ Below z.val.heap.size z.val w') := hid (fun z => HHC.out z.val ((HBW.out.trans (HB1.out.mono HBW.out.size)).trans (z.prop.mono (HBW.out.trans (HB1.out.mono HBW.out.size)).size)))
            go_wp2_with fail
            refine wp_region_bw (by kernel_rfl) (by kernel_rfl) ?_
            repeat (go_big_quiet_step ((go_at_call 49; exact bw_call (X.out _))))
            refine wpQuiet_nil ?_
            rintro w2 ⟨⟨_, hb2⟩, rfl⟩
            have HB2 : Hid (Below w0.heap.size w0 w2) := HB.out.trans ((HB1.out.trans (hb2.mono HB1.out.size)).mono HB.out.size)
            clear hb2
            go_wp2_with fail
            go_roundw
            case rel => exact ⟨k + 1, by omega, by go_num, by rw [HNX.out, HV.out], HB2.out⟩
            case measure => simp [intOf]; omega
          · have HV : Hid (nxt = n) := hid (by rw [HV0.out]; simp [hrk])
            have hrd : decide (rn < x.rank) = false := decide_eq_false hrk
            clear HV0
            go_upto_region 5 with fail
            refine wp_gen ?_
            intro w1 hw1
            have hb1 : Below wr.heap.size wr w1 := by rw [hw1]; go_grown
            have hx1 : Blk w1 wr.heap.size #[.int .i64 x.rank, .slice x.pa x.preds.length x.pcap, .string x.target, .int .i64 x.ap, .int .i64 x.as_, .int .i64 x.dp, .int .i64 x.dt, .int .i64 x.mp, .string x.mirror, .int .i64 x.sample] 60 := by rw [hw1]; exact Blk.new _ _ _
            have b0 : w1.cell? ⟨wr.heap.size, 0, none⟩ = some (.int .i64 x.rank) := hx1.cell 0
            have b1 : w1.cell? ⟨wr.heap.size, 1, none⟩ = some (.slice x.pa x.preds.length x.pcap) := hx1.cell 1
            have b2 : w1.cell? ⟨wr.heap.size, 2, none⟩ = some (.string x.target) := hx1.cell 2
            have b3 : w1.cell? ⟨wr.heap.size, 3, none⟩ = some (.int .i64 x.ap) := hx1.cell 3
            have b4 : w1.cell? ⟨wr.heap.size, 4, none⟩ = some (.int .i64 x.as_) := hx1.cell 4
            have b5 : w1.cell? ⟨wr.heap.size, 5, none⟩ = some (.int .i64 x.dp) := hx1.cell 5
            have b6 : w1.cell? ⟨wr.heap.size, 6, none⟩ = some (.int .i64 x.dt) := hx1.cell 6
            have b7 : w1.cell? ⟨wr.heap.size, 7, none⟩ = some (.int .i64 x.mp) := hx1.cell 7
            have b8 : w1.cell? ⟨wr.heap.size, 8, none⟩ = some (.string x.mirror) := hx1.cell 8
            have b9 : w1.cell? ⟨wr.heap.size, 9, none⟩ = some (.int .i64 x.sample) := hx1.cell 9
            have hlx := hx1.lt
            have HB1 := hid hb1
            have z0 := (hb1.cell (p := ⟨W.heap.size, 0, none⟩) hltq).trans y0
            have z1 := (hb1.cell (p := ⟨W.heap.size, 1, none⟩) hltq).trans y1
            have z2 := (hb1.cell (p := ⟨W.heap.size, 2, none⟩) hltq).trans y2
            have z3 := (hb1.cell (p := ⟨W.heap.size, 3, none⟩) hltq).trans y3
            have z4 := (hb1.cell (p := ⟨W.heap.size, 4, none⟩) hltq).trans y4
            have hltz : W.heap.size < w1.heap.size := Nat.lt_of_lt_of_le hltq hb1.size
            have hblz : bb < w1.heap.size := Nat.lt_of_lt_of_le hbl hb1.size
            have fz := (hb1.cell (p := ⟨bb, off + n * 10, none⟩) hbl).trans f0
            clear f0
            clear hx1 hw1 hb1 c0 c1 c2 c3 c4 c5 c6 c7 c8 c9 y0 y1 y2 y3 y4
            have X : Hid (∀ z : BW w1, Calls Try.prog 49 #[.agg #[.int .i64 x.rank, .slice x.pa x.preds.length x.pcap, .string x.target, .int .i64 x.ap, .int .i64 x.as_, .int .i64 x.dp, .int .i64 x.dt, .int .i64 x.mp, .string x.mirror, .int .i64 x.sample], .agg #[.string m, .string h, .string p, .slice a0 hs.length cap0, .string b]] z.val fun e w' => e = .returned (.bool true) ∧ Below z.val.heap.size z.val w') := hid (fun z => HHC.out z.val ((HBW.out.trans (HB1.out.mono HBW.out.size)).trans (z.prop.mono (HBW.out.trans (HB1.out.mono HBW.out.size)).size)))
            go_wp2_with fail
            refine wp_region_bw (by kernel_rfl) (by kernel_rfl) ?_
            repeat (go_big_quiet_step ((go_at_call 49; exact bw_call (X.out _))))
            refine wpQuiet_nil ?_
            rintro w2 ⟨⟨_, hb2⟩, rfl⟩
            have HB2 : Hid (Below w0.heap.size w0 w2) := HB.out.trans ((HB1.out.trans (hb2.mono HB1.out.size)).mono HB.out.size)
            clear hb2
            go_wp2_with fail
            go_roundw
            case rel => exact ⟨k + 1, by omega, by go_num, by rw [HNX.out, HV.out], HB2.out⟩
            case measure => simp [intOf]; omega
    · obtain rfl : k = l.length := by omega
      have HF : Hid (firstI (fun r => C11.allR m h p hs r.preds) l l.length = r) := hid HR.out
      rw [HF.out]
      go_wp2_with fail
      go_ret
      exact ⟨rfl, HB0.out.trans (HB.out.mono HB0.out.size)⟩
end C12
end Go.Proofs.Ytmmmaldpalhjeaa
namespace Go.Proofs.Ytmmmaldpalhjeaa
open Go.RowKit Go.Peri
namespace C12
def namesB (ns : List ByteArray) : Bool := decide (ns.length ≤ 20) && ns.all (fun s => decide (s.size ≤ 400))
theorem names_len {ns : List ByteArray} (h : namesB ns = true) : ns.length ≤ 20 := by
  unfold namesB at h
  rw [Bool.and_eq_true] at h
  exact of_decide_eq_true h.1
theorem names_long {ns : List ByteArray} {k : Nat} (hk : k < ns.length) (h : 400 < ns[k].size) : namesB ns = false := by
  rw [Bool.eq_false_iff]
  intro hc
  unfold namesB at hc
  rw [Bool.and_eq_true, List.all_eq_true] at hc
  have := of_decide_eq_true (hc.2 ns[k] (List.getElem_mem hk))
  omega
set_option maxRecDepth 100000 in
theorem names_any {p : Nat → Prop} (v : Value) (ns : List ByteArray) (r : Bool) (W : World) (h : RowsOf p sEnc 1 W v ns) (hl : ns.length ≤ 10000000000000) (hr : namesB ns = r) :
    Calls Try.prog 43 #[v] W fun e w' => e = .returned (.bool r) ∧ W = w' := by
  obtain ⟨a, cap, rfl, h2, h3, h4, h5⟩ := h
  have H5 := hid h5
  have HR := hid hr
  clear h5 h4 hr
  go_enter Try.func43, Try.ntmps43
  go_wp2_with fail
  go_loop [3] (fun i => ∃ k : Nat, k ≤ ns.length ∧ k ≤ 21 ∧ i = .int .i64 k ∧ Hid (∀ s ∈ ns.take k, s.size ≤ 400)) (fun i => ns.length - (intOf i).toNat)
  case atStart => exact ⟨0, Nat.zero_le _, by decide, rfl, hid (fun s hs => by simp at hs)⟩
  case round =>
    obtain ⟨k, hk, hk21, rfl, hno⟩ := hrel
    by_cases hk2 : k < ns.length
    · by_cases hk3 : k ≤ 20
      · obtain ⟨x, hx⟩ : ∃ x, ns[k] = x := ⟨_, rfl⟩
        obtain ⟨b, off, rfl, hc⟩ : ∃ b off, a = some ⟨b, off, none⟩ ∧ W.cell? ⟨b, off + k, none⟩ = some (.string x) := by
          rcases H5.out with h0 | ⟨b, off, h1, _, h3⟩
          · rw [h0] at hk2; simp at hk2
          · refine ⟨b, off, h1, ?_⟩
            have := h3 k hk2 0 (.string x) (by rw [hx]; rfl)
            simpa using this
        have HL : Hid (400 < x.size → r = false) := hid (fun h => by rw [← HR.out]; exact names_long hk2 (by rw [hx]; exact h))
        have HN : Hid (x.size ≤ 400 → ∀ s ∈ ns.take (k + 1), s.size ≤ 400) := hid (fun h s hs => by
          rw [List.take_succ_eq_append_getElem hk2, hx] at hs
          rcases List.mem_append.1 hs with hs | hs
          · exact hno.out s hs
          · simp at hs; rw [hs]; exact h)
        clear hx
        by_cases hx4 : 400 < x.size
        · have HF := hid (HL.out hx4)
          clear HL HN
          go_wp2_with fail
          go_ret
          exact ⟨by rw [HF.out]; rfl, rfl⟩
        · have HF := hid (HN.out (by omega))
          clear HL HN
          go_wp2_with fail
          go_round
          case rel => exact ⟨k + 1, by omega, by omega, by go_num, HF⟩
          case measure => simp [intOf]; omega
      · have HF : Hid (r = false) := by
          show _ = _
          rw [← HR.out]
          unfold namesB
          rw [decide_eq_false (by omega), Bool.false_and]
        go_wp2_with fail
        go_ret
        exact ⟨by rw [HF.out]; simp; omega, rfl⟩
    · obtain rfl : k = ns.length := by omega
      have HF : Hid (r = decide (ns.length ≤ 20)) := by
        show _ = _
        rw [← HR.out]
        unfold namesB
        have : ns.all (fun s => decide (s.size ≤ 400)) = true := by
          rw [List.all_eq_true]
          intro s hs
          exact decide_eq_true (hno.out s (by rw [List.take_length]; exact hs))
        rw [this, Bool.and_true]
      have hi : (decide ((ns.length : Int) ≤ 20)) = decide (ns.length ≤ 20) := by by_cases h : ns.length ≤ 20 <;> simp [h] <;> omega
      have HI := hid hi
      clear hi
      go_wp2_with fail
      go_ret
      exact ⟨by rw [HF.out, ← HI.out]; rfl, rfl⟩
end C12
end Go.Proofs.Ytmmmaldpalhjeaa
namespace Go.Proofs.Ytmmmaldpalhjeaa
open Go.RowKit Go.Peri
namespace C14
open C12 (namesB names_long)
set_option maxRecDepth 100000 in
theorem names_any {p : Nat → Prop} (v : Value) (ns : List ByteArray) (r : Bool) (W : World) (h : RowsOf p sEnc 1 W v ns) (hl : ns.length ≤ 10000000000000) (hr : namesB ns = r) :
    Calls Try.prog 69 #[v] W fun e w' => e = .returned (.bool r) ∧ W = w' := by
  obtain ⟨a, cap, rfl, h2, h3, h4, h5⟩ := h
  have H5 := hid h5
  have HR := hid hr
  clear h5 h4 hr
  go_enter Try.func69, Try.ntmps69
  go_wp2_with fail
  go_loop [3] (fun i => ∃ k : Nat, k ≤ ns.length ∧ k ≤ 21 ∧ i = .int .i64 k ∧ Hid (∀ s ∈ ns.take k, s.size ≤ 400)) (fun i => ns.length - (intOf i).toNat)
  case atStart => exact ⟨0, Nat.zero_le _, by decide, rfl, hid (fun s hs => by simp at hs)⟩
  case round =>
    obtain ⟨k, hk, hk21, rfl, hno⟩ := hrel
    by_cases hk2 : k < ns.length
    · by_cases hk3 : k ≤ 20
      · obtain ⟨x, hx⟩ : ∃ x, ns[k] = x := ⟨_, rfl⟩
        obtain ⟨b, off, rfl, hc⟩ : ∃ b off, a = some ⟨b, off, none⟩ ∧ W.cell? ⟨b, off + k, none⟩ = some (.string x) := by
          rcases H5.out with h0 | ⟨b, off, h1, _, h3⟩
          · rw [h0] at hk2; simp at hk2
          · refine ⟨b, off, h1, ?_⟩
            have := h3 k hk2 0 (.string x) (by rw [hx]; rfl)
            simpa using this
        have HL : Hid (400 < x.size → r = false) := hid (fun h => by rw [← HR.out]; exact names_long hk2 (by rw [hx]; exact h))
        have HN : Hid (x.size ≤ 400 → ∀ s ∈ ns.take (k + 1), s.size ≤ 400) := hid (fun h s hs => by
          rw [List.take_succ_eq_append_getElem hk2, hx] at hs
          rcases List.mem_append.1 hs with hs | hs
          · exact hno.out s hs
          · simp at hs; rw [hs]; exact h)
        clear hx
        by_cases hx4 : 400 < x.size
        · have HF := hid (HL.out hx4)
          clear HL HN
          go_wp2_with fail
          go_ret
          exact ⟨by rw [HF.out]; rfl, rfl⟩
        · have HF := hid (HN.out (by omega))
          clear HL HN
          go_wp2_with fail
          go_round
          case rel => exact ⟨k + 1, by omega, by omega, by go_num, HF⟩
          case measure => simp [intOf]; omega
      · have HF : Hid (r = false) := by
          show _ = _
          rw [← HR.out]
          unfold namesB
          rw [decide_eq_false (by omega), Bool.false_and]
        go_wp2_with fail
        go_ret
        exact ⟨by rw [HF.out]; simp; omega, rfl⟩
    · obtain rfl : k = ns.length := by omega
      have HF : Hid (r = decide (ns.length ≤ 20)) := by
        show _ = _
        rw [← HR.out]
        unfold namesB
        have : ns.all (fun s => decide (s.size ≤ 400)) = true := by
          rw [List.all_eq_true]
          intro s hs
          exact decide_eq_true (hno.out s (by rw [List.take_length]; exact hs))
        rw [this, Bool.and_true]
      have hi : (decide ((ns.length : Int) ≤ 20)) = decide (ns.length ≤ 20) := by by_cases h : ns.length ≤ 20 <;> simp [h] <;> omega
      have HI := hid hi
      clear hi
      go_wp2_with fail
      go_ret
      exact ⟨by rw [HF.out, ← HI.out]; rfl, rfl⟩
end C14
end Go.Proofs.Ytmmmaldpalhjeaa
namespace Go.Proofs.Ytmmmaldpalhjeaa
open Go.RowKit Go.Peri
namespace C14
open C12 (wp_gen)
set_option maxRecDepth 100000 in
set_option maxHeartbeats 1000000 in
theorem fewC_any (l : List Rl) (a : Option Addr) (cap : Nat) (f : ByteArray) (r : Bool) (W : World) (hl : RowsOf (· < W.heap.size) Rl.enc 10 W (.slice a l.length cap) l) (hw : ∀ x ∈ l, x.Wf W W.heap.size) (hll : l.length ≤ 100000000000000) (hf : f.size ≤ 140737488351232) (hr : C16.fewT l f = r) :
    Calls Try.prog 68 #[.agg #[.slice a l.length cap, .string f]] W fun e w' => e = .returned (.bool r) ∧ Below W.heap.size W w' := by
  obtain ⟨q, hq⟩ : ∃ q, Rl.few l = q := ⟨_, rfl⟩
  have HF := hid (fun w' (hb : Below W.heap.size W w') => C16.fewR_any (B := W.heap.size) (.slice a l.length cap) l q w' (hl.below hb (fun _ h => h)) (fun x hx => (hw x hx).below hb) hb.size (by omega) hq)
  unfold C16.fewT at hr
  rw [hq] at hr
  have HR := hid hr
  have HB0 : Hid (Below W.heap.size W (W.alloc (.cells #[.slice a l.length cap, .string f] 109))) := by show Below _ _ _; go_grown
  clear hl hw hq hr
  by_cases h4 : f.size ≤ 400
  · have h5 : (f.size : Int) ≤ 400 := by omega
    have HRF : Hid (r = q) := by show _ = _; rw [← HR.out, decide_eq_true h4]; rfl
    clear HR
    go_enter Try.func68, Try.ntmps68
    go_wp2_with fail
    refine (HF.out _ HB0.out).mono ?_
    rintro e w1 ⟨rfl, hb1⟩
    have HB1 := hid (HB0.out.trans (hb1.mono HB0.out.size))
    clear hb1
    go_wp2_with fail
    go_ret
    exact ⟨by rw [HRF.out]; rfl, HB1.out⟩
  · have h5 : ¬ (f.size : Int) ≤ 400 := by omega
    have h6 : decide ((f.size : Int) ≤ 400) = false := decide_eq_false h5
    have HRF : Hid (r = false) := by show _ = _; rw [← HR.out, decide_eq_false h4]; rfl
    clear HR
    go_enter Try.func68, Try.ntmps68
    go_wp2_with fail
    go_ret
    exact ⟨by rw [HRF.out]; rfl, HB0.out⟩
def kA : Rl := ⟨1, none, 0, [], ⟨#[97]⟩, 0, 0, 0, 0, 0, ByteArray.empty, 0⟩
def kB (n : Nat) : Rl := ⟨2, some ⟨n, 0, none⟩, 1, [⟨2, ByteArray.empty, ⟨#[120]⟩⟩], ⟨#[98]⟩, 0, 0, 0, 0, 0, ByteArray.empty, 0⟩
def kL (n : Nat) : List Rl := [kA, kB n]
def kN2 : List ByteArray := [⟨#[97]⟩, ⟨#[98]⟩]
def kN1 : List ByteArray := [⟨#[97]⟩]
theorem kA_wf (w : World) (B : Nat) : kA.Wf w B := ⟨RowsOf.nil _ _ _ _, by decide, by simp [kA], by simp [kA, Sp.I64], by decide, by decide⟩
theorem kB_wf {w : World} {n B : Nat} (h : Blk w n #[.int .i64 2, .string ByteArray.empty, .string ⟨#[120]⟩] 146) (hB : n < B) : (kB n).Wf w B :=
  ⟨(rows_of_blk (l := [⟨2, ByteArray.empty, ⟨#[120]⟩⟩]) (enc := Prd.enc) (k := 3) (fun _ => rfl) h rfl (by decide)).imp (fun b hb => by rw [hb]; exact hB), by show 1 * 40 ≤ 140737488351232; decide, fun x hx => by
    have : x = ⟨2, ByteArray.empty, ⟨#[120]⟩⟩ := by simpa [kB] using hx
    subst this
    exact ⟨by simp [Sp.I64], by decide, by decide⟩, by simp [kB, Sp.I64], by show 1 ≤ 140737488351232; decide, by show 0 ≤ 140737488351232; decide⟩
theorem kReq (w : World) (h : ByteArray) (hh : h.size ≤ 140737488351232) : ReqV w w.heap.size ByteArray.empty h ByteArray.empty ByteArray.empty [] none 0 := ⟨RowsOf.nil _ _ _ _, by decide, by simp, by decide, hh, by decide, by decide⟩
theorem kL_psl (n : Nat) : ∀ r ∈ kL n, r.preds.length ≤ 1000000 := by
  intro r hr
  simp only [kL, List.mem_cons, List.not_mem_nil, or_false] at hr
  rcases hr with rfl | rfl
  · decide
  · show 1 ≤ 1000000; decide
/-- The fixed rules, wherever memory has grown. -/
structure KeepL (W w' : World) : Prop where
  rows : RowsOf (· < w'.heap.size) Rl.enc 10 w' (.slice (some ⟨W.heap.size + 1, 0, none⟩) 2 2) (kL W.heap.size)
  wf : ∀ r ∈ kL W.heap.size, r.Wf w' w'.heap.size
theorem keepL {W w1 w' : World} (h0 : Blk w1 W.heap.size #[.int .i64 2, .string ByteArray.empty, .string ⟨#[120]⟩] 146) (h1 : Blk w1 (W.heap.size + 1) #[.int .i64 1, .slice none 0 0, .string ⟨#[97]⟩, .int .i64 0, .int .i64 0, .int .i64 0, .int .i64 0, .int .i64 0, .string ByteArray.empty, .int .i64 0, .int .i64 2, .slice (some ⟨W.heap.size, 0, none⟩) 1 1, .string ⟨#[98]⟩, .int .i64 0, .int .i64 0, .int .i64 0, .int .i64 0, .int .i64 0, .string ByteArray.empty, .int .i64 0] 60) (hb : Below w1.heap.size w1 w') : KeepL W w' := by
  have k0 := h0.later hb
  have k1 := h1.later hb
  refine ⟨(rows_of_blk (l := kL W.heap.size) Rl.enc_length k1 rfl (by show 2 ≤ maxLen; decide)).imp (fun b hb => by rw [hb]; exact k1.lt), fun r hr => ?_⟩
  simp only [kL, List.mem_cons, List.not_mem_nil, or_false] at hr
  rcases hr with rfl | rfl
  · exact kA_wf _ _
  · exact kB_wf k0 k0.lt
theorem names2 (w : World) : RowsOf (· < (w.alloc (.cells #[.string ⟨#[97]⟩, .string ⟨#[98]⟩] 9)).heap.size) sEnc 1 (w.alloc (.cells #[.string ⟨#[97]⟩, .string ⟨#[98]⟩] 9)) (.slice (some ⟨w.heap.size, 0, none⟩) 2 2) kN2 :=
  (rows_of_blk (l := kN2) (enc := sEnc) (k := 1) (fun _ => rfl) (Blk.new w #[.string ⟨#[97]⟩, .string ⟨#[98]⟩] 9) rfl (by decide)).imp (fun b hb => by rw [hb]; simp)
theorem names1 (w : World) : RowsOf (· < (w.alloc (.cells #[.string ⟨#[97]⟩] 9)).heap.size) sEnc 1 (w.alloc (.cells #[.string ⟨#[97]⟩] 9)) (.slice (some ⟨w.heap.size, 0, none⟩) 1 1) kN1 :=
  (rows_of_blk (l := kN1) (enc := sEnc) (k := 1) (fun _ => rfl) (Blk.new w #[.string ⟨#[97]⟩] 9) rfl (by decide)).imp (fun b hb => by rw [hb]; simp)
theorem TabV.at' {w w' : World} {l : List Rl} {a : Option Addr} {cap : Nat} {f : ByteArray} (h : TabV w w.heap.size l a cap f) (hb : Below w.heap.size w w') : TabV w' w'.heap.size l a cap f :=
  ⟨(h.rows.below hb (fun _ h => h)).imp (fun _ h => Nat.lt_of_lt_of_le h hb.size), h.len, fun x hx => (fun g => ⟨g.rows.imp (fun _ h => Nat.lt_of_lt_of_le h hb.size), g.len, g.preds, g.rank, g.target, g.mirror⟩) ((h.wf x hx).below hb), h.f⟩
theorem kc (n : Nat) : compR 7 ByteArray.empty (kL n) kN2 = 0 := by rfl
theorem ko (n : Nat) : Srt.order Rl.rank (kL n) = [kB n, kA] := rfl
theorem kw (n : Nat) : wholeB 7 ByteArray.empty [kB n, kA] kN2 = true := by
  have h1 : stepB (kB n) kA = false := by simp [stepB, kB, kA, wrap64]
  have h2 : cfgR ByteArray.empty [kB n, kA] kN2 = 0 := by rfl
  unfold wholeB
  rw [h2, fallsB, h1]
  rfl
theorem kw' (n : Nat) : wholeB 7 ByteArray.empty [kB n, kA] kN1 = false := by
  have h2 : cfgR ByteArray.empty [kB n, kA] kN1 = 7 := by rfl
  unfold wholeB
  rw [h2]
  rfl
/-- What is read off the rules hangs on what they are alone. -/
theorem look_core (m h p : ByteArray) (hs : List Hd) : ∀ {l k : List Rl}, l.map Rl.core = k.map Rl.core → C16.lookR m h p hs l = C16.lookR m h p hs k := by
  intro l k hc
  have hlen : l.length = k.length := by
    have := congrArg List.length hc
    simpa using this
  have hix : C16.ix m h p hs l = C16.ix m h p hs k := by
    unfold C16.ix
    clear hlen
    induction l generalizing k with
    | nil => cases k with
      | nil => rfl
      | cons y k => simp at hc
    | cons x l ih =>
      cases k with
      | nil => simp at hc
      | cons y k =>
        rw [List.map_cons, List.map_cons, List.cons.injEq] at hc
        rw [List.findIdx_cons, List.findIdx_cons, (Rl.core_eq hc.1).2.1, ih hc.2]
  unfold C16.lookR
  rw [hix, hlen]
theorem bad_core (ns : List ByteArray) : ∀ {l k : List Rl}, l.map Rl.core = k.map Rl.core → badR ns l = badR ns k
  | [], [], _ => rfl
  | [], _ :: _, h => by simp at h
  | _ :: _, [], h => by simp at h
  | x :: l, y :: k, h => by
    rw [List.map_cons, List.map_cons, List.cons.injEq] at h
    obtain ⟨h0, h1, h2, h3, h4, h5, h6, h7, h8, h9⟩ := Rl.core_eq h.1
    have e : ruleR ns x = ruleR ns y := by unfold ruleR; rw [h0, h1, h2, h3, h4, h5, h6, h7, h8, h9]
    unfold badR
    rw [e, bad_core ns h.2]
theorem cfg_core (f : ByteArray) (ns : List ByteArray) {l k : List Rl} (h : l.map Rl.core = k.map Rl.core) : cfgR f l ns = cfgR f k ns := by
  have hlen : l.length = k.length := by
    have := congrArg List.length h
    simpa using this
  unfold cfgR
  rw [bad_core ns h, hlen]
theorem falls_coreB : ∀ {l k : List Rl}, l.map Rl.core = k.map Rl.core → fallsB l = fallsB k
  | [], [], _ => rfl
  | [], _ :: _, h => by simp at h
  | _ :: _, [], h => by simp at h
  | [x], [y], _ => rfl
  | [x], y :: z :: k, h => by simp at h
  | x :: z :: l, [y], h => by simp at h
  | x :: u :: l, y :: v :: k, h => by
    simp only [List.map_cons, List.cons.injEq] at h
    have h2 : (u :: l).map Rl.core = (v :: k).map Rl.core := by rw [List.map_cons, List.map_cons, h.2.1, h.2.2]
    rw [fallsB, fallsB, falls_coreB h2, stepB, stepB, (Rl.core_eq h.1).1, (Rl.core_eq h.2.1).1]
theorem whole_core (n : Int) (f : ByteArray) (ns : List ByteArray) {l k : List Rl} (h : l.map Rl.core = k.map Rl.core) : wholeB n f l ns = wholeB n f k ns := by
  unfold wholeB
  rw [cfg_core f ns h, falls_coreB h]
theorem psl_core {l k : List Rl} {N : Nat} (h : l.map Rl.core = k.map Rl.core) (hk : ∀ r ∈ k, r.preds.length ≤ N) : ∀ r ∈ l, r.preds.length ≤ N := by
  intro x hx
  have hm : x.core ∈ k.map Rl.core := by rw [← h]; exact List.mem_map_of_mem hx
  obtain ⟨y, hy, hyx⟩ := List.mem_map.1 hm
  rw [← (Rl.core_eq hyx).2.1]
  exact hk y hy
def Known : Prop := ∀ W : World, Calls Try.prog 70 #[] W fun e w' => e = .returned (.bool true) ∧ Below W.heap.size W w'
end C14
end Go.Proofs.Ytmmmaldpalhjeaa
namespace Go.Proofs.Ytmmmaldpalhjeaa
open Go.RowKit Go.Peri
namespace C14
open C12 (wp_gen)
set_option maxRecDepth 100000 in
set_option maxHeartbeats 8000000 in
theorem known_any : Known := by
  intro W
  go_enter Try.func70, Try.ntmps70
  go_upto_region 2 with fail
  refine wp_gen ?_
  intro w1 hw1
  have hb1 : Below W.heap.size W w1 := by rw [hw1]; go_grown
  have h0 : Blk w1 W.heap.size #[.int .i64 2, .string ByteArray.empty, .string ⟨#[120]⟩] 146 := by rw [hw1]; exact ((Blk.new _ _ _).alloc _).alloc _
  have h1 : Blk w1 (W.heap.size + 1) #[.int .i64 1, .slice none 0 0, .string ⟨#[97]⟩, .int .i64 0, .int .i64 0, .int .i64 0, .int .i64 0, .int .i64 0, .string ByteArray.empty, .int .i64 0, .int .i64 2, .slice (some ⟨W.heap.size, 0, none⟩) 1 1, .string ⟨#[98]⟩, .int .i64 0, .int .i64 0, .int .i64 0, .int .i64 0, .int .i64 0, .string ByteArray.empty, .int .i64 0] 60 := by rw [hw1]; exact (Blk.new' _ _ _ (by simp)).alloc _
  have h2 : Blk w1 (W.heap.size + 2) #[.slice (some ⟨W.heap.size + 1, 0, none⟩) 2 2, .string ByteArray.empty] 109 := by rw [hw1]; exact Blk.new' _ _ _ (by simp)
  clear hw1
  have HB1 := hid hb1
  have K := hid (fun w' hb => keepL (w' := w') h0 h1 hb)
  have HCF := hid h2
  have c0 : w1.cell? ⟨W.heap.size + 2, 0, none⟩ = some (.slice (some ⟨W.heap.size + 1, 0, none⟩) 2 2) := h2.cell 0
  have c1 : w1.cell? ⟨W.heap.size + 2, 1, none⟩ = some (.string ByteArray.empty) := h2.cell 1
  have hlc := h2.lt
  have HCO : Hid (Calls Try.prog 71 #[.agg #[.slice (some ⟨W.heap.size + 1, 0, none⟩) 2 2, .string ByteArray.empty], .int .i64 7, .slice (some ⟨w1.heap.size, 0, none⟩) 2 2] (w1.alloc (.cells #[.string ⟨#[97]⟩, .string ⟨#[98]⟩] 9)) (Ret (CompQ 7 (kL W.heap.size) ByteArray.empty 0 (w1.alloc (.cells #[.string ⟨#[97]⟩, .string ⟨#[98]⟩] 9))))) :=
    hid (compile_any 7 (kL W.heap.size) (some ⟨W.heap.size + 1, 0, none⟩) 2 ByteArray.empty kN2 _ 0 _ (K.out _ (by go_grown)).rows (K.out _ (by go_grown)).wf (kL_psl _) (names2 w1) (by decide) (by decide) (kc _))
  have HBN : Hid (Below w1.heap.size w1 (w1.alloc (.cells #[.string ⟨#[97]⟩, .string ⟨#[98]⟩] 9))) := by show Below _ _ _; go_grown
  clear hb1 h0 h1 h2
  go_wp2_with fail
  refine HCO.out.mono ?_
  rintro e w2 ⟨v2, rfl, l1, a1, cap1, rfl, hb2, ht2, hl1⟩
  rw [if_pos rfl] at hl1
  simp only [if_true] at ht2 ⊢
  have hb3 := HBN.out.trans (hb2.mono HBN.out.size)
  have hl3 : l1.length = 2 := by
    have := congrArg List.length hl1
    rwa [List.length_map, List.length_map, Srt.order_length] at this
  have HW2 := hid hb3
  have HT2 := hid ht2
  have HL1 := hid hl1
  have HL3 := hid hl3
  have e2 : ((l1.length : Int) == 2) = true := by rw [hl3]; rfl
  have e3 : (0 : Int) < (l1.length : Int) := by rw [hl3]; decide
  have hx0 : l1[0].target = ⟨#[98]⟩ := by
    have e : (l1.map Rl.core)[0]? = some (kB W.heap.size).core := by rw [hl1]; rfl
    rw [List.getElem?_map, List.getElem?_eq_getElem (by omega)] at e
    exact (Rl.core_eq (Option.some.inj e)).2.2.1
  obtain ⟨b, off, rfl, hbl, hcc⟩ : ∃ b off, a1 = some ⟨b, off, none⟩ ∧ b < w2.heap.size ∧ w2.cell? ⟨b, off + 2, none⟩ = some (.string ⟨#[98]⟩) := by
    obtain ⟨a', cap', e, _, _, _, h5⟩ := ht2.rows
    cases e
    rcases h5 with h5 | ⟨b, off, h1, h2, h3⟩
    · rw [h5] at hl3; simp at hl3
    · refine ⟨b, off, h1, h2, ?_⟩
      have := (Rl.cells (fun j u hu => h3 0 (by omega) j u hu)).2.2.1
      rw [hx0] at this
      simpa using this
  clear hb2 ht2 hl1 hl3 hx0 c0 c1 HCO
  have HPS : Hid (∀ r ∈ l1, r.preds.length ≤ 1000000) := hid (psl_core HL1.out (by rw [ko]; intro r hr; exact kL_psl W.heap.size r (by simp only [kL, List.mem_cons, List.not_mem_nil, or_false] at hr ⊢; exact hr.symm)))
  have TV : Hid (∀ w', Below w2.heap.size w2 w' → TabV w' w'.heap.size l1 (some ⟨b, off, none⟩) cap1 ByteArray.empty) := hid (fun w' hb => TabV.at' HT2.out hb)
  have HLL : Hid (l1.length ≤ 1000000) := hid (by rw [HL3.out]; decide)
  have H0 : Hid (∀ w', Below w2.heap.size w2 w' → Calls Try.prog 76 #[.agg #[.int .i64 7, .slice (some ⟨b, off, none⟩) l1.length cap1, .string ByteArray.empty], .agg #[.string ByteArray.empty, .string ⟨#[120]⟩, .string ByteArray.empty, .slice none 0 0, .string ByteArray.empty]] w' fun e w'' => e = .returned (.int .i64 0) ∧ Below w'.heap.size w' w'') := hid (fun w' hb =>
    C16.look_any 7 l1 (some ⟨b, off, none⟩) cap1 ByteArray.empty ByteArray.empty ⟨#[120]⟩ ByteArray.empty ByteArray.empty [] none 0 0 w' (TV.out w' hb) (kReq w' ⟨#[120]⟩ (by decide)) (Nat.le_refl _) (by decide) (fun r hr => Nat.le_trans (HPS.out r hr) (by decide)) (by rw [look_core _ _ _ _ HL1.out]; rfl))
  have H1 : Hid (∀ w', Below w2.heap.size w2 w' → Calls Try.prog 76 #[.agg #[.int .i64 7, .slice (some ⟨b, off, none⟩) l1.length cap1, .string ByteArray.empty], .agg #[.string ByteArray.empty, .string ByteArray.empty, .string ByteArray.empty, .slice none 0 0, .string ByteArray.empty]] w' fun e w'' => e = .returned (.int .i64 1) ∧ Below w'.heap.size w' w'') := hid (fun w' hb =>
    C16.look_any 7 l1 (some ⟨b, off, none⟩) cap1 ByteArray.empty ByteArray.empty ByteArray.empty ByteArray.empty ByteArray.empty [] none 0 1 w' (TV.out w' hb) (kReq w' ByteArray.empty (by decide)) (Nat.le_refl _) (by decide) (fun r hr => Nat.le_trans (HPS.out r hr) (by decide)) (by rw [look_core _ _ _ _ HL1.out]; rfl))
  have H2 : Hid (∀ w', Below w2.heap.size w2 w' → Calls Try.prog 76 #[.agg #[.int .i64 0, .slice none 0 0, .string ByteArray.empty], .agg #[.string ByteArray.empty, .string ByteArray.empty, .string ByteArray.empty, .slice none 0 0, .string ByteArray.empty]] w' fun e w'' => e = .returned (.int .i64 (-1)) ∧ Below w'.heap.size w' w'') := hid (fun w' _ =>
    C16.look_any 0 [] none 0 ByteArray.empty ByteArray.empty ByteArray.empty ByteArray.empty ByteArray.empty [] none 0 (-1) w' ⟨RowsOf.nil _ _ _ _, by decide, by simp, by decide⟩ (kReq w' ByteArray.empty (by decide)) (Nat.le_refl _) (by decide) (by simp) (by rfl))
  have H3 : Hid (∀ w', Below w2.heap.size w2 w' → Calls Try.prog 75 #[.agg #[.int .i64 7, .slice (some ⟨b, off, none⟩) l1.length cap1, .string ByteArray.empty], .slice (some ⟨w'.heap.size, 0, none⟩) 2 2] (w'.alloc (.cells #[.string ⟨#[97]⟩, .string ⟨#[98]⟩] 9)) fun e w'' => e = .returned (.bool true) ∧ Below w2.heap.size w2 w'' ∧ Below w'.heap.size w' w'') := hid (fun w' hb =>
    (whole_any 7 l1 (some ⟨b, off, none⟩) cap1 ByteArray.empty kN2 _ true _ (TV.out _ (hb.alloc hb.size _)).rows (TV.out _ (hb.alloc hb.size _)).wf (Nat.le_trans HLL.out (by decide)) HPS.out (names2 w') (by decide) (by decide) (by rw [whole_core _ _ _ HL1.out, ko, kw])).mono (fun e w'' h => ⟨h.1, (hb.alloc hb.size _).trans (h.2.mono (hb.alloc hb.size _).size), ((Below.refl _ w').alloc (Nat.le_refl _) _).trans (h.2.mono (by simp))⟩))
  have H4 : Hid (∀ w', Below w2.heap.size w2 w' → Calls Try.prog 75 #[.agg #[.int .i64 7, .slice (some ⟨b, off, none⟩) l1.length cap1, .string ByteArray.empty], .slice (some ⟨w'.heap.size, 0, none⟩) 1 1] (w'.alloc (.cells #[.string ⟨#[97]⟩] 9)) fun e w'' => e = .returned (.bool false) ∧ Below w2.heap.size w2 w'' ∧ Below w'.heap.size w' w'') := hid (fun w' hb =>
    (whole_any 7 l1 (some ⟨b, off, none⟩) cap1 ByteArray.empty kN1 _ false _ (TV.out _ (hb.alloc hb.size _)).rows (TV.out _ (hb.alloc hb.size _)).wf (Nat.le_trans HLL.out (by decide)) HPS.out (names1 w') (by decide) (by decide) (by rw [whole_core _ _ _ HL1.out, ko, kw'])).mono (fun e w'' h => ⟨h.1, (hb.alloc hb.size _).trans (h.2.mono (hb.alloc hb.size _).size), ((Below.refl _ w').alloc (Nat.le_refl _) _).trans (h.2.mono (by simp))⟩))
  have H5 : Hid (∀ w', Below w2.heap.size w2 w' → Calls Try.prog 73 #[.agg #[.slice (some ⟨W.heap.size + 1, 0, none⟩) 2 2, .string ByteArray.empty], .slice (some ⟨w'.heap.size, 0, none⟩) 1 1] (w'.alloc (.cells #[.string ⟨#[97]⟩] 9)) fun e w'' => e = .returned (.int .i64 7) ∧ Below w2.heap.size w2 w'' ∧ Below w'.heap.size w' w'') := hid (fun w' hb =>
    (check_any (kL W.heap.size) (some ⟨W.heap.size + 1, 0, none⟩) 2 ByteArray.empty kN1 _ 7 _ (K.out _ (HW2.out.trans ((hb.alloc hb.size _).mono HW2.out.size))).rows (K.out _ (HW2.out.trans ((hb.alloc hb.size _).mono HW2.out.size))).wf (fun r hr => Nat.le_trans (kL_psl _ r hr) (by decide)) (names1 w') (by decide) (by decide) (by rfl)).mono (fun e w'' h => ⟨h.1, (hb.alloc hb.size _).trans (h.2.mono (hb.alloc hb.size _).size), ((Below.refl _ w').alloc (Nat.le_refl _) _).trans (h.2.mono (by simp))⟩))
  clear HT2 HL1 HL3 TV HPS HLL K
  generalize l1.length = n1 at *
  go_upto_region 3 with fail
  refine wp_gen ?_
  intro w3 hw3
  have hb3' : Below w2.heap.size w2 w3 := by rw [hw3]; go_grown
  have hk3 : Blk w3 w2.heap.size #[.int .i64 7, .slice (some ⟨b, off, none⟩) n1 cap1, .string ByteArray.empty] 46 := by rw [hw3]; exact Blk.new _ _ _
  clear hw3
  have HK3 := hid hk3
  have KEEP : Hid (∀ w', Below w2.heap.size w2 w' → w2.heap.size < w'.heap.size → Blk w' w2.heap.size #[.int .i64 7, .slice (some ⟨b, off, none⟩) n1 cap1, .string ByteArray.empty] 46 → w'.cell? ⟨b, off + 2, none⟩ = some (.string ⟨#[98]⟩) ∧ w'.cell? ⟨w2.heap.size, 0, none⟩ = some (.int .i64 7) ∧ w'.cell? ⟨w2.heap.size, 1, none⟩ = some (.slice (some ⟨b, off, none⟩) n1 cap1) ∧ w'.cell? ⟨w2.heap.size, 2, none⟩ = some (.string ByteArray.empty) ∧ w'.cell? ⟨W.heap.size + 2, 0, none⟩ = some (.slice (some ⟨W.heap.size + 1, 0, none⟩) 2 2) ∧ w'.cell? ⟨W.heap.size + 2, 1, none⟩ = some (.string ByteArray.empty) ∧ W.heap.size + 2 < w'.heap.size) := hid (fun w' hb hs hk =>
    have hcf := HCF.out.below (HW2.out.trans (hb.mono HW2.out.size)) hlc
    ⟨(hb.cell (p := ⟨b, off + 2, none⟩) hbl).trans hcc, hk.cell 0, hk.cell 1, hk.cell 2, hcf.cell 0, hcf.cell 1, hcf.lt⟩)
  have HB3 := hid hb3'
  have HS3 := hid hk3.lt
  obtain ⟨k30, k31, k32, k33, k34, k35, k36⟩ := KEEP.out w3 hb3' hk3.lt hk3
  clear hb3' hk3 hcc
  go_wp2_with fail
  refine (H0.out _ HB3.out).mono ?_
  rintro e w4 ⟨rfl, hb⟩
  have HB4 := hid (HB3.out.trans (hb.mono HB3.out.size))
  have HK4 := hid (HK3.out.later hb)
  clear hb
  have HS4 := hid HK4.out.lt
  obtain ⟨k40, k41, k42, k43, k44, k45, k46⟩ := KEEP.out w4 HB4.out HS4.out HK4.out
  have s4 := HS4.out
  clear k30 k31 k32 k33 k34 k35 k36
  go_wp2_with fail
  refine (H1.out _ HB4.out).mono ?_
  rintro e w5 ⟨rfl, hb⟩
  have HB5 := hid (HB4.out.trans (hb.mono HB4.out.size))
  have HK5 := hid (HK4.out.later hb)
  clear hb
  have HS5 := hid HK5.out.lt
  obtain ⟨k50, k51, k52, k53, k54, k55, k56⟩ := KEEP.out w5 HB5.out HS5.out HK5.out
  have s5 := HS5.out
  clear k40 k41 k42 k43 k44 k45 k46
  go_wp2_with fail
  refine (H2.out _ HB5.out).mono ?_
  rintro e w6 ⟨rfl, hb⟩
  have HB6 := hid (HB5.out.trans (hb.mono HB5.out.size))
  have HK6 := hid (HK5.out.later hb)
  clear hb
  have HS6 := hid HK6.out.lt
  obtain ⟨k60, k61, k62, k63, k64, k65, k66⟩ := KEEP.out w6 HB6.out HS6.out HK6.out
  have s6 := HS6.out
  clear k50 k51 k52 k53 k54 k55 k56
  go_wp2_with fail
  refine (H3.out _ HB6.out).mono ?_
  rintro e w7 ⟨rfl, hb, hbk⟩
  have HB7 := hid hb
  have HK7 := hid (HK6.out.later hbk)
  clear hb hbk
  have HS7 := hid HK7.out.lt
  have s7 := HS7.out
  obtain ⟨k70, k71, k72, k73, k74, k75, k76⟩ := KEEP.out w7 HB7.out HS7.out HK7.out
  clear k60 k61 k62 k63 k64 k65 k66
  go_wp2_with fail
  refine (H4.out _ HB7.out).mono ?_
  rintro e w8 ⟨rfl, hb, hbk⟩
  have HB8 := hid hb
  have HK8 := hid (HK7.out.later hbk)
  clear hb hbk
  have HS8 := hid HK8.out.lt
  have s8 := HS8.out
  obtain ⟨k80, k81, k82, k83, k84, k85, k86⟩ := KEEP.out w8 HB8.out HS8.out HK8.out
  clear k70 k71 k72 k73 k74 k75 k76
  go_wp2_with fail
  refine (H5.out _ HB8.out).mono ?_
  rintro e w9 ⟨rfl, hb, -⟩
  have HB9 := hid hb
  clear hb
  go_wp2_with fail
  go_ret
  exact ⟨rfl, HB1.out.trans ((HW2.out.trans (HB9.out.mono HW2.out.size)).mono HB1.out.size)⟩
end C14
end Go.Proofs.Ytmmmaldpalhjeaa
