/- Walks of layer 12 (rule): the document's First; no condition. Walks of layers 12 and 14: few rules; a table that is small; no condition. The law RuleFinds walked (12); no condition. -/
import Derived.Test.YtmmmaldpalhjeaaMg06
import Derived.Deep.Cut
import Derived.Test.YtmmmaldpalhjeaaMg07
import Derived.Test.YtmmmaldpalhjeaaMg09
import Derived.Test.YtmmmaldpalhjeaaMg10
import Derived.Test.YtmmmaldpalhjeaaMg05
namespace Go.Proofs.Ytmmmaldpalhjeaa
open Go.RowKit Go.Peri
namespace C12
set_option maxRecDepth 100000 in
set_option maxHeartbeats 2000000 in
theorem rfirst_any (v : Value) (l : List Rl) (m h p b : ByteArray) (hs : List Hd) (a0 : Option Addr) (cap0 : Nat) (r : Int) (W : World) (hl : RowsOf (· < W.heap.size) Rl.enc 10 W v l) (hw : ∀ r ∈ l, r.Wf W W.heap.size) (hq : ReqV W W.heap.size m h p b hs a0 cap0) (hn : hs.length ≤ 1000000) (hll : l.length ≤ 10000000000000) (hps : ∀ r ∈ l, r.preds.length ≤ 1000000000) (hr : firstR (fun r => C11.allR m h p hs r.preds) l = r) :
    Calls Try.prog 55 #[v, .agg #[.string m, .string h, .string p, .slice a0 hs.length cap0, .string b]] W fun e w' => e = .returned (.int .i64 r) ∧ Below W.heap.size W w' := by
  obtain ⟨a, cap, rfl, hlc, hcm, _, hcell⟩ := hl
  have HC := hid hcell
  have HR := hid hr
  have HIT := hid (fun (x : Rl) (q : Bool) (w' : World) (hx : x ∈ l) (hh : C11.allR m h p hs x.preds = q) (hb : Below W.heap.size W w') => C16.rhits_any x m h p b hs a0 cap0 q w' ((hw x hx).below hb) (hq.below hb) hb.size hn (hps x hx) hh)
  clear hcell hw hq hps hr
  go_enter Try.func55, Try.ntmps55
  go_upto_region 1 with fail
  refine wp_gen ?_
  intro w0 hw0
  have hb0 : Below W.heap.size W w0 := by rw [hw0]; go_grown
  have hk0 : Blk w0 W.heap.size #[.string m, .string h, .string p, .slice a0 hs.length cap0, .string b] 67 := by rw [hw0]; exact Blk.new _ _ _
  clear hw0
  have HB0 := hid hb0
  have HK0 := hid hk0
  have hlt0 := hk0.lt
  clear hb0 hk0
  go_wp2_with fail
  go_loopw [5, 6] (fun best i wr => ∃ k : Nat, k ≤ l.length ∧ i = .int .i64 k ∧ best = .int .i64 (firstI (fun r => C11.allR m h p hs r.preds) l k) ∧ Below w0.heap.size w0 wr) (fun _ i _ => l.length - (intOf i).toNat)
  case atStart => exact ⟨0, Nat.zero_le _, rfl, rfl, Below.refl _ _⟩
  case round =>
    obtain ⟨k, hk, rfl, rfl, hb⟩ := hrel
    have HB := hid hb
    have hws := hb.size
    clear hb
    by_cases hlt : k < l.length
    · obtain ⟨bb, off, rfl, hpb, hc⟩ := HC.out.resolve_left (by intro e; rw [e] at hlt; simp at hlt)
      have HBW : Hid (Below W.heap.size W wr) := HB0.out.trans (HB.out.mono HB0.out.size)
      have hbl : bb < wr.heap.size := Nat.lt_of_lt_of_le hpb HBW.out.size
      obtain ⟨c0, c1, c2, c3, c4, c5, c6, c7, c8, c9⟩ := Rl.cells (fun j u hu => (HBW.out.cell (p := ⟨bb, off + k * 10 + j, none⟩) hpb).trans (hc k hlt j u hu))
      have hkr := HK0.out.later HB.out
      have y0 : wr.cell? ⟨W.heap.size, 0, none⟩ = some (.string m) := hkr.cell 0
      have y1 : wr.cell? ⟨W.heap.size, 1, none⟩ = some (.string h) := hkr.cell 1
      have y2 : wr.cell? ⟨W.heap.size, 2, none⟩ = some (.string p) := hkr.cell 2
      have y3 : wr.cell? ⟨W.heap.size, 3, none⟩ = some (.slice a0 hs.length cap0) := hkr.cell 3
      have y4 : wr.cell? ⟨W.heap.size, 4, none⟩ = some (.string b) := hkr.cell 4
      have hltq := hkr.lt
      clear hkr
      have HFN := hid (firstI_neg (fun r => C11.allR m h p hs r.preds) l k hlt)
      have HFP := hid (fun n hn he => firstI_pos (fun r => C11.allR m h p hs r.preds) l k n hlt hn he)
      obtain ⟨bq, hbq⟩ : ∃ bq, C11.allR m h p hs l[k].preds = bq := ⟨_, rfl⟩
      have HHC := hid (fun w' (hb : Below W.heap.size W w') => HIT.out l[k] bq w' (List.getElem_mem hlt) hbq hb)
      have hbn := firstI_lt (fun r => C11.allR m h p hs r.preds) l k
      have HIX : Hid (∀ n (hn : n < l.length), wr.cell? ⟨bb, off + n * 10, none⟩ = some (.int .i64 l[n].rank)) := hid (fun n hn => (Rl.cells (fun j u hu => (HBW.out.cell (p := ⟨bb, off + n * 10 + j, none⟩) hpb).trans (hc n hn j u hu))).1)
      simp only [hbq] at HFN HFP
      obtain ⟨bst, hbst⟩ : ∃ z, firstI (fun r => C11.allR m h p hs r.preds) l k = z := ⟨_, rfl⟩
      obtain ⟨nxt, hnxt⟩ : ∃ z, firstI (fun r => C11.allR m h p hs r.preds) l (k + 1) = z := ⟨_, rfl⟩
      rw [hnxt, hbst] at HFN
      rw [hbst] at hbn
      rw [hnxt] at HFP
      have HNX := hid hnxt
      have HBS := hid hbst
      rw [hbst]
      have i1 : (0 : Int) ≤ (k : Int) := by omega
      have i2 : (k : Int) < (l.length : Int) := by omega
      clear hbq hnxt hc
      rw [hbst] at HFP
      clear hbst
      generalize l[k] = x at c0 c1 c2 c3 c4 c5 c6 c7 c8 c9 HHC HFP
      by_cases hb0 : bst < 0
      · have HV0 := hid (HFN.out hb0)
        cases bq
        · have HV : Hid (nxt = bst) := hid (by rw [HV0.out]; rfl)
          clear HV0 HFN HFP HIX
          have X : Hid (∀ z : BW wr, Calls Try.prog 50 #[.agg #[.int .i64 x.rank, .slice x.pa x.preds.length x.pcap, .string x.target, .int .i64 x.ap, .int .i64 x.as_, .int .i64 x.dp, .int .i64 x.dt, .int .i64 x.mp, .string x.mirror, .int .i64 x.sample], .agg #[.string m, .string h, .string p, .slice a0 hs.length cap0, .string b]] z.val fun e w' => e = .returned (.bool false) ∧ Below z.val.heap.size z.val w') := hid (fun z => HHC.out z.val (HBW.out.trans (z.prop.mono HBW.out.size)))
          go_wp2_with fail
          refine wp_region_bw (by kernel_rfl) (by kernel_rfl) ?_
          repeat (go_big_quiet_step ((go_at_call 50; exact bw_call (X.out _))))
          refine wpQuiet_nil ?_
          rintro w2 ⟨⟨_, hb2⟩, rfl⟩
          have HB2 : Hid (Below w0.heap.size w0 w2) := HB.out.trans (hb2.mono HB.out.size)
          clear hb2
          go_wp2_with fail
          go_roundw
          case rel => exact ⟨k + 1, by omega, by go_num, by rw [HNX.out, HV.out], HB2.out⟩
          case measure => simp [intOf]; omega
        · have HV : Hid (nxt = k) := hid (by rw [HV0.out]; rfl)
          clear HV0 HFN HFP HIX
          have X : Hid (∀ z : BW wr, Calls Try.prog 50 #[.agg #[.int .i64 x.rank, .slice x.pa x.preds.length x.pcap, .string x.target, .int .i64 x.ap, .int .i64 x.as_, .int .i64 x.dp, .int .i64 x.dt, .int .i64 x.mp, .string x.mirror, .int .i64 x.sample], .agg #[.string m, .string h, .string p, .slice a0 hs.length cap0, .string b]] z.val fun e w' => e = .returned (.bool true) ∧ Below z.val.heap.size z.val w') := hid (fun z => HHC.out z.val (HBW.out.trans (z.prop.mono HBW.out.size)))
          go_wp2_with fail
          refine wp_region_bw (by kernel_rfl) (by kernel_rfl) ?_
          repeat (go_big_quiet_step ((go_at_call 50; exact bw_call (X.out _))))
          refine wpQuiet_nil ?_
          rintro w2 ⟨⟨_, hb2⟩, rfl⟩
          have HB2 : Hid (Below w0.heap.size w0 w2) := HB.out.trans (hb2.mono HB.out.size)
          clear hb2
          go_wp2_with fail
          go_roundw
          case rel => exact ⟨k + 1, by omega, by go_num, by rw [HNX.out, HV.out], HB2.out⟩
          case measure => simp [intOf]; omega
      · obtain ⟨n, rfl⟩ : ∃ n : Nat, bst = n := ⟨bst.toNat, by omega⟩
        have hnl : n < l.length := by omega
        have f0 := HIX.out n hnl
        have HV0 := hid (HFP.out n hnl rfl)
        have j1 : (0 : Int) ≤ (n : Int) := by omega
        have j0 : decide ((n : Int) < 0) = false := decide_eq_false (by omega)
        have j3 : ¬ (n : Int) < 0 := by omega
        have j2 : (n : Int) < (l.length : Int) := by omega
        generalize l[n].rank = rn at f0 HV0
        clear HFN HFP HIX hb0
        cases bq
        · have HV : Hid (nxt = n) := hid (by rw [HV0.out]; simp)
          clear HV0
          by_cases hrk : rn < x.rank
          · have X : Hid (∀ z : BW wr, Calls Try.prog 50 #[.agg #[.int .i64 x.rank, .slice x.pa x.preds.length x.pcap, .string x.target, .int .i64 x.ap, .int .i64 x.as_, .int .i64 x.dp, .int .i64 x.dt, .int .i64 x.mp, .string x.mirror, .int .i64 x.sample], .agg #[.string m, .string h, .string p, .slice a0 hs.length cap0, .string b]] z.val fun e w' => e = .returned (.bool false) ∧ Below z.val.heap.size z.val w') := hid (fun z => HHC.out z.val (HBW.out.trans (z.prop.mono HBW.out.size)))
            go_wp2_with fail
            refine wp_region_bw (by kernel_rfl) (by kernel_rfl) ?_
            repeat (go_big_quiet_step ((go_at_call 50; exact bw_call (X.out _))))
            refine wpQuiet_nil ?_
            rintro w2 ⟨⟨_, hb2⟩, rfl⟩
            have HB2 : Hid (Below w0.heap.size w0 w2) := HB.out.trans (hb2.mono HB.out.size)
            clear hb2
            go_wp2_with fail
            go_roundw
            case rel => exact ⟨k + 1, by omega, by go_num, by rw [HNX.out, HV.out], HB2.out⟩
            case measure => simp [intOf]; omega
          · have hrd : decide (rn < x.rank) = false := decide_eq_false hrk
            have X : Hid (∀ z : BW wr, Calls Try.prog 50 #[.agg #[.int .i64 x.rank, .slice x.pa x.preds.length x.pcap, .string x.target, .int .i64 x.ap, .int .i64 x.as_, .int .i64 x.dp, .int .i64 x.dt, .int .i64 x.mp, .string x.mirror, .int .i64 x.sample], .agg #[.string m, .string h, .string p, .slice a0 hs.length cap0, .string b]] z.val fun e w' => e = .returned (.bool false) ∧ Below z.val.heap.size z.val w') := hid (fun z => HHC.out z.val (HBW.out.trans (z.prop.mono HBW.out.size)))
            go_wp2_with fail
            refine wp_region_bw (by kernel_rfl) (by kernel_rfl) ?_
            repeat (go_big_quiet_step ((go_at_call 50; exact bw_call (X.out _))))
            refine wpQuiet_nil ?_
            rintro w2 ⟨⟨_, hb2⟩, rfl⟩
            have HB2 : Hid (Below w0.heap.size w0 w2) := HB.out.trans (hb2.mono HB.out.size)
            clear hb2
            go_wp2_with fail
            go_roundw
            case rel => exact ⟨k + 1, by omega, by go_num, by rw [HNX.out, HV.out], HB2.out⟩
            case measure => simp [intOf]; omega
        · by_cases hrk : rn < x.rank
          · have HV : Hid (nxt = k) := hid (by rw [HV0.out]; simp [hrk])
            clear HV0
            have X : Hid (∀ z : BW wr, Calls Try.prog 50 #[.agg #[.int .i64 x.rank, .slice x.pa x.preds.length x.pcap, .string x.target, .int .i64 x.ap, .int .i64 x.as_, .int .i64 x.dp, .int .i64 x.dt, .int .i64 x.mp, .string x.mirror, .int .i64 x.sample], .agg #[.string m, .string h, .string p, .slice a0 hs.length cap0, .string b]] z.val fun e w' => e = .returned (.bool true) ∧ Below z.val.heap.size z.val w') := hid (fun z => HHC.out z.val (HBW.out.trans (z.prop.mono HBW.out.size)))
            go_wp2_with fail
            refine wp_region_bw (by kernel_rfl) (by kernel_rfl) ?_
            repeat (go_big_quiet_step ((go_at_call 50; exact bw_call (X.out _))))
            refine wpQuiet_nil ?_
            rintro w2 ⟨⟨_, hb2⟩, rfl⟩
            have HB2 : Hid (Below w0.heap.size w0 w2) := HB.out.trans (hb2.mono HB.out.size)
            clear hb2
            go_wp2_with fail
            go_roundw
            case rel => exact ⟨k + 1, by omega, by go_num, by rw [HNX.out, HV.out], HB2.out⟩
            case measure => simp [intOf]; omega
          · have HV : Hid (nxt = n) := hid (by rw [HV0.out]; simp [hrk])
            have hrd : decide (rn < x.rank) = false := decide_eq_false hrk
            clear HV0
            have X : Hid (∀ z : BW wr, Calls Try.prog 50 #[.agg #[.int .i64 x.rank, .slice x.pa x.preds.length x.pcap, .string x.target, .int .i64 x.ap, .int .i64 x.as_, .int .i64 x.dp, .int .i64 x.dt, .int .i64 x.mp, .string x.mirror, .int .i64 x.sample], .agg #[.string m, .string h, .string p, .slice a0 hs.length cap0, .string b]] z.val fun e w' => e = .returned (.bool true) ∧ Below z.val.heap.size z.val w') := hid (fun z => HHC.out z.val (HBW.out.trans (z.prop.mono HBW.out.size)))
            go_wp2_with fail
            refine wp_region_bw (by kernel_rfl) (by kernel_rfl) ?_
            repeat (go_big_quiet_step ((go_at_call 50; exact bw_call (X.out _))))
            refine wpQuiet_nil ?_
            rintro w2 ⟨⟨_, hb2⟩, rfl⟩
            have HB2 : Hid (Below w0.heap.size w0 w2) := HB.out.trans (hb2.mono HB.out.size)
            clear hb2
            go_wp2_with fail
            go_roundw
            case rel => exact ⟨k + 1, by omega, by go_num, by rw [HNX.out, HV.out], HB2.out⟩
            case measure => simp [intOf]; omega
    · obtain rfl : k = l.length := by omega
      have HF : Hid (firstI (fun r => C11.allR m h p hs r.preds) l l.length = r) := hid HR.out
      rw [HF.out]
      go_wp2_with fail
      go_ret
      exact ⟨rfl, HB0.out.trans (HB.out.mono HB0.out.size)⟩
end C12
end Go.Proofs.Ytmmmaldpalhjeaa
namespace Go.Proofs.Ytmmmaldpalhjeaa
open Go.RowKit Go.Peri
namespace C16
set_option maxRecDepth 100000 in
set_option maxHeartbeats 2000000 in
theorem fewR_any {B : Nat} (v : Value) (l : List Rl) (r : Bool) (W : World) (h : RowsOf (· < B) Rl.enc 10 W v l) (hw : ∀ x ∈ l, x.Wf W B) (hB : B ≤ W.heap.size) (hl : l.length ≤ 1000000000000000) (hr : Rl.few l = r) :
    Calls Try.prog 47 #[v] W fun e w' => e = .returned (.bool r) ∧ Below W.heap.size W w' := by
  obtain ⟨a, cap, rfl, hlc, hcm, _, hcell⟩ := h
  have HC := hid hcell
  have HR := hid hr
  have HW := hid hw
  clear hcell hr hw
  by_cases h60 : 40 < l.length
  · have hd : Hid (Rl.few l = false) := hid (by unfold Rl.few; rw [decide_eq_false (by omega)]; rfl)
    go_enter Try.func47, Try.ntmps47
    go_wp2_with fail
    go_ret
    exact ⟨by rw [← HR.out, hd.out]; rfl, Below.refl _ _⟩
  go_enter Try.func47, Try.ntmps47
  go_wp2_with fail
  go_loopw [3] (fun i wr => ∃ k : Nat, k ≤ l.length ∧ i = .int .i64 k ∧ Below W.heap.size W wr ∧ ∀ j (_ : j < k) (h1 : j < l.length), Rl.fewB l[j] = true) (fun i _ => l.length - (intOf i).toNat)
  case atStart => exact ⟨0, Nat.zero_le _, rfl, Below.refl _ _, fun j hj => absurd hj (Nat.not_lt_zero _)⟩
  case round =>
    obtain ⟨k, hk, rfl, hb, hno⟩ := hrel
    have HB := hid hb
    have HN := hid hno
    clear hb hno
    by_cases hlt : k < l.length
    · obtain ⟨bb, off, rfl, hpb, hc⟩ := HC.out.resolve_left (by intro e; rw [e] at hlt; simp at hlt)
      have hbl0 : bb < W.heap.size := Nat.lt_of_lt_of_le hpb hB
      have hbl : bb < wr.heap.size := Nat.lt_of_lt_of_le hbl0 HB.out.size
      have hcc := Rl.cells (fun j u hu => (HB.out.cell (p := ⟨bb, off + k * 10 + j, none⟩) hbl0).trans (hc k hlt j u hu))
      have HNext : Hid (Rl.fewB l[k] = true → ∀ j (_ : j < k + 1) (h1 : j < l.length), Rl.fewB l[j] = true) := by
        intro he j hj h1
        by_cases e : j = k
        · subst e; exact he
        · exact HN.out j (by omega) h1
      have HHit : Hid (Rl.fewB l[k] = false → Rl.few l = false) := fun h1 => by
        unfold Rl.few
        rw [Bool.and_eq_false_iff]
        right
        rw [List.all_eq_false]
        exact ⟨l[k], List.getElem_mem hlt, by rw [Bool.not_eq_true]; exact h1⟩
      have hwy := HW.out l[k] (List.getElem_mem hlt)
      clear hc
      generalize l[k] = y at hcc HNext HHit hwy
      obtain ⟨fp, hfp⟩ : ∃ q, Prd.few y.preds = q := ⟨_, rfl⟩
      have HFx : Hid (∀ x : BW wr, Calls Try.prog 42 #[.slice y.pa y.preds.length y.pcap] x.val fun e w' => e = .returned (.bool fp) ∧ Below x.val.heap.size x.val w') := hid (fun x => by
        have hg := HB.out.trans (x.prop.mono HB.out.size)
        exact C11.few_any _ y.preds fp x.val (hwy.rows.below (hg.mono hB) (fun _ h => h)) (fun b hb => Nat.lt_of_lt_of_le hb (Nat.le_trans hB hg.size)) hwy.preds (by have := hwy.len; omega) hfp)
      have hy1 := hwy.target
      have hy2 := hwy.mirror
      have hk1 : (k : Int) < (l.length : Int) := by omega
      have HF : Hid (Rl.fewB y = (fp && decide (y.target.size + y.mirror.size ≤ 400))) := hid (by rw [← hfp]; rfl)
      obtain ⟨n1, hn1⟩ : ∃ n, n = y.target.size := ⟨_, rfl⟩
      obtain ⟨n2, hn2⟩ : ∃ n, n = y.mirror.size := ⟨_, rfl⟩
      rw [← hn1] at hy1 HF
      rw [← hn2] at hy2 HF
      clear hfp hwy
      cases fp
      · have HV := hid (HHit.out (by rw [HF.out]; rfl))
        clear HHit HNext hn1 hn2 HF
        obtain ⟨c0, c1, c2, c3, c4, c5, c6, c7, c8, c9⟩ := hcc
        go_wp2_with fail
        refine wp_region_bw (by kernel_rfl) (by kernel_rfl) ?_
        repeat (go_big_quiet_step ((go_at_call 42; exact bw_call (HFx.out _))))
        refine wpQuiet_nil ?_
        rintro w2 ⟨⟨_, hbw⟩, rfl⟩
        have HB1 := hid (HB.out.trans (hbw.mono HB.out.size))
        clear hbw
        go_wp2_with fail
        go_ret
        exact ⟨by rw [← HR.out, HV.out]; rfl, HB1.out⟩
      by_cases hs : n1 + n2 ≤ 400
      · have HV := hid (HNext.out (by rw [HF.out, decide_eq_true hs]; rfl))
        have hwr : IntKind.i64.wrap ((n1 : Int) + (n2 : Int)) = (n1 : Int) + (n2 : Int) := IntWalk.i64_in _ (by omega)
        have hle : ¬ (400 : Int) < (n1 : Int) + (n2 : Int) := by omega
        rw [hn1, hn2] at hwr hle
        clear HHit HNext hn1 hn2 HF
        obtain ⟨c0, c1, c2, c3, c4, c5, c6, c7, c8, c9⟩ := hcc
        go_wp2_with fail
        refine wp_region_bw (by kernel_rfl) (by kernel_rfl) ?_
        repeat (go_big_quiet_step ((go_at_call 42; exact bw_call (HFx.out _))))
        refine wpQuiet_nil ?_
        rintro w2 ⟨⟨_, hbw⟩, rfl⟩
        have HB1 := hid (HB.out.trans (hbw.mono HB.out.size))
        clear hbw
        go_wp2_with fail
        go_roundw
        case rel => exact ⟨k + 1, by omega, by go_num, HB1.out, HV.out⟩
        case measure => simp [intOf]; omega
      · have HV := hid (HHit.out (by rw [HF.out, decide_eq_false hs]; rfl))
        have hwr : IntKind.i64.wrap ((n1 : Int) + (n2 : Int)) = (n1 : Int) + (n2 : Int) := IntWalk.i64_in _ (by omega)
        have hle : (400 : Int) < (n1 : Int) + (n2 : Int) := by omega
        rw [hn1, hn2] at hwr hle
        clear HHit HNext hn1 hn2 HF
        obtain ⟨c0, c1, c2, c3, c4, c5, c6, c7, c8, c9⟩ := hcc
        go_wp2_with fail
        refine wp_region_bw (by kernel_rfl) (by kernel_rfl) ?_
        repeat (go_big_quiet_step ((go_at_call 42; exact bw_call (HFx.out _))))
        refine wpQuiet_nil ?_
        rintro w2 ⟨⟨_, hbw⟩, rfl⟩
        have HB1 := hid (HB.out.trans (hbw.mono HB.out.size))
        clear hbw
        go_wp2_with fail
        go_ret
        exact ⟨by rw [← HR.out, HV.out]; rfl, HB1.out⟩
    · obtain rfl : k = l.length := by omega
      have hd : Hid (Rl.few l = true) := hid (by
        unfold Rl.few
        rw [decide_eq_true (by omega), Bool.true_and, List.all_eq_true]
        intro x hx
        obtain ⟨i, hi, rfl⟩ := List.getElem_of_mem hx
        exact HN.out i hi hi)
      go_wp2_with fail
      go_ret
      exact ⟨by rw [← HR.out, hd.out]; rfl, HB.out⟩
def fewT (l : List Rl) (f : ByteArray) : Bool := decide (f.size ≤ 400) && Rl.few l
set_option maxRecDepth 100000 in
set_option maxHeartbeats 1000000 in
theorem fewT_any {B : Nat} (n : Int) (l : List Rl) (a : Option Addr) (cap : Nat) (f : ByteArray) (r : Bool) (W : World) (ht : TabV W B l a cap f) (hB : B ≤ W.heap.size) (hr : fewT l f = r) :
    Calls Try.prog 33 #[.agg #[.int .i64 n, .slice a l.length cap, .string f]] W fun e w' => e = .returned (.bool r) ∧ Below W.heap.size W w' := by
  have HB0 : Hid (Below W.heap.size W (W.alloc (.cells #[.int .i64 n, .slice a l.length cap, .string f] 46))) := by show Below _ _ _; go_grown
  have hf := ht.f
  unfold fewT at hr
  by_cases h4 : f.size ≤ 400
  · rw [decide_eq_true h4, Bool.true_and] at hr
    have g1 : (f.size : Int) ≤ 400 := by omega
    have HF := hid (fun w' (hw : Below W.heap.size W w') => fewR_any (.slice a l.length cap) l r w' (ht.rows.below (hw.mono hB) (fun _ h => h)) (fun x hx => (ht.wf x hx).below (hw.mono hB)) (Nat.le_trans hB hw.size) (by have := ht.len; omega) hr)
    clear ht hr h4
    go_enter Try.func33, Try.ntmps33
    go_wp2_with fail
    refine (HF.out _ HB0.out).mono ?_
    rintro e w1 ⟨rfl, hb1⟩
    have HB1 := hid (HB0.out.trans (hb1.mono HB0.out.size))
    clear hb1
    go_wp2_with fail
    go_ret
    exact ⟨rfl, HB1.out⟩
  · rw [decide_eq_false h4, Bool.false_and] at hr
    subst hr
    have g1 : ¬ (f.size : Int) ≤ 400 := by omega
    have g2 : (400 : Int) < (f.size : Int) := by omega
    clear ht h4
    go_enter Try.func33, Try.ntmps33
    go_wp2_with fail
    go_ret
    exact ⟨rfl, HB0.out⟩
end C16
end Go.Proofs.Ytmmmaldpalhjeaa
namespace Go.Proofs.Ytmmmaldpalhjeaa
open Go.RowKit Go.Peri
namespace C12
theorem core_len {l k : List Rl} (h : l.map Rl.core = k.map Rl.core) : l.length = k.length := by
  have := congrArg List.length h
  simpa using this
theorem core_psl {l k : List Rl} {N : Nat} (h : l.map Rl.core = k.map Rl.core) (hk : ∀ r ∈ k, r.preds.length ≤ N) : ∀ r ∈ l, r.preds.length ≤ N := by
  intro x hx
  have hm : x.core ∈ k.map Rl.core := by rw [← h]; exact List.mem_map_of_mem hx
  obtain ⟨y, hy, hyx⟩ := List.mem_map.1 hm
  rw [← (Rl.core_eq hyx).2.1]
  exact hk y hy
/-- Rules by their rank, wherever memory has grown. -/
def OrdV (w : World) (l : List Rl) (v : Value) (w1 : World) : Prop := ∃ (l1 : List Rl) (a : Option Addr) (c : Nat), v = .slice a l.length c ∧ l1.length = l.length ∧ Below w.heap.size w w1 ∧ l1.map Rl.core = (Srt.order Rl.rank l).map Rl.core ∧ Hid (∀ w2, Below w1.heap.size w1 w2 → RowsOf (· < w2.heap.size) Rl.enc 10 w2 (.slice a l.length c) l1 ∧ ∀ x ∈ l1, x.At (· < w2.heap.size) w2)
theorem OrdV.of_ord {w : World} {l : List Rl} {v : Value} {w1 : World} (h : Ordered w l v w1) : OrdV w l v w1 := by
  obtain ⟨l1, hc, hb, hown, hat⟩ := h
  have hlen : l1.length = l.length := by rw [core_len hc, Srt.order_length]
  obtain ⟨a, c, rfl⟩ := owns_form hown
  refine ⟨l1, a, c, rfl, hlen, hb, hc, hid (fun w2 hw => ⟨?_, fun x hx => ?_⟩)⟩
  · have h1 : RowsOf (fun b => w.heap.size ≤ b ∧ b < w1.heap.size) Rl.enc 10 w1 (.slice a l1.length c) l1 := RowsOf.of_owns Rl.enc_length (by rw [hlen]; exact hown)
    rw [hlen] at h1
    exact (h1.below hw (fun b hb => hb.2)).imp (fun b hb => Nat.lt_of_lt_of_le hb.2 hw.size)
  · exact ((hat x hx).below hw (fun b hb => hb.2.1)).imp (fun b hb => Nat.lt_of_lt_of_le hb.2.1 hw.size)
theorem OrdV.of_rord {w : World} {l : List Rl} {v : Value} {w1 : World} (hat : ∀ x ∈ l, x.At (· < w.heap.size) w) (h : ROrd w l v w1) : OrdV w l v w1 := by
  obtain ⟨hb, hown⟩ := h
  have hlen : (Srt.order Rl.rank l).length = l.length := Srt.order_length _ _
  obtain ⟨a, c, rfl⟩ := owns_form hown
  refine ⟨Srt.order Rl.rank l, a, c, rfl, hlen, hb, rfl, hid (fun w2 hw => ⟨?_, fun x hx => ?_⟩)⟩
  · have h1 : RowsOf (fun b => w.heap.size ≤ b ∧ b < w1.heap.size) Rl.enc 10 w1 (.slice a (Srt.order Rl.rank l).length c) (Srt.order Rl.rank l) := RowsOf.of_owns Rl.enc_length (by rw [hlen]; exact hown)
    rw [hlen] at h1
    exact (h1.below hw (fun b hb => hb.2)).imp (fun b hb => Nat.lt_of_lt_of_le hb.2 hw.size)
  · have hx1 := (Srt.order_mem Rl.rank x l).1 hx
    have hww : Below w.heap.size w w2 := hb.trans (hw.mono hb.size)
    exact ((hat x hx1).below hww (fun b hb => hb)).imp (fun b hb => Nat.lt_of_lt_of_le hb hww.size)
set_option maxRecDepth 100000 in
set_option maxHeartbeats 16000000 in
theorem finds_walk (K : Known) (v : Value) (l : List Rl) (m h p b : ByteArray) (hs : List Hd) (a0 : Option Addr) (cap0 : Nat) (W : World) (hl : RowsOf (· < W.heap.size) Rl.enc 10 W v l) (hw : ∀ x ∈ l, x.Wf W W.heap.size) (hll : l.length * 112 ≤ 140737488351232) (hq : ReqV W W.heap.size m h p b hs a0 cap0) :
    Calls Try.prog 10 #[v, .agg #[.string m, .string h, .string p, .slice a0 hs.length cap0, .string b]] W fun e w' => e = .returned (.bool true) ∧ Below W.heap.size W w' := by
  have HK := hid K
  obtain ⟨q1, hq1⟩ : ∃ q, Rl.few l = q := ⟨_, rfl⟩
  obtain ⟨q3, hq3⟩ : ∃ q, C11.short m h p b hs = q := ⟨_, rfl⟩
  obtain ⟨kk, hkk⟩ : ∃ r, firstR (fun r => C11.allR m h p hs r.preds) l = r := ⟨_, rfl⟩
  have HROW := hid (fun w' (hb : Below W.heap.size W w') => (hl.below hb (fun _ h => h)).imp (fun b h => Nat.lt_of_lt_of_le h hb.size))
  have HWF := hid (fun w' (hb : Below W.heap.size W w') (r : Rl) (hr' : r ∈ l) => (fun g : r.Wf w' W.heap.size => (⟨g.rows.imp (fun b h => Nat.lt_of_lt_of_le h hb.size), g.len, g.preds, g.rank, g.target, g.mirror⟩ : r.Wf w' w'.heap.size)) ((hw r hr').below hb))
  have HRV := hid (fun w' (hb : Below W.heap.size W w') => (fun g : ReqV w' W.heap.size m h p b hs a0 cap0 => (⟨g.rows.imp (fun b h => Nat.lt_of_lt_of_le h hb.size), g.len, g.wf, g.m, g.h, g.p, g.b⟩ : ReqV w' w'.heap.size m h p b hs a0 cap0)) (hq.below hb))
  have HF := hid (fun w' (hb : Below W.heap.size W w') => C16.fewR_any v l q1 w' (HROW.out w' hb) (HWF.out w' hb) (Nat.le_refl _) (by omega) hq1)
  have HSH := hid (fun w' (hw : Below W.heap.size W w') => C11.short_any m h p b hs a0 cap0 q3 w' (hq.rows.below hw (fun _ h => h)) (fun b hb => Nat.lt_of_lt_of_le hb hw.size) hq.wf (by have := hq.len; omega) hq.m hq.h hq.p hq.b hq3)
  have HPS1 : Hid (q1 = true → l.length ≤ 40 ∧ ∀ r ∈ l, r.preds.length ≤ 1000000) := hid (fun e => by
    subst e
    exact ⟨Rl.few_len hq1, fun r hr' => Nat.le_trans (Rl.few_preds hq1 r hr') (by decide)⟩)
  have HH1 : Hid (q3 = true → hs.length ≤ 1000000) := hid (fun e => by subst e; have := (C11.short_len hq3).2; omega)
  obtain ⟨a, cap, rfl⟩ := hl.form
  have HO := hid (fun w' (hb : Below W.heap.size W w') (h40 : l.length ≤ 40) (hp : ∀ r ∈ l, r.preds.length ≤ 1000000) => order40_any (.slice a l.length cap) l w' (HROW.out w' hb) (fun _ h => h) h40 (fun x hx => (HWF.out w' hb x hx).rows) hp)
  have HR := hid (fun w' (hb : Below W.heap.size W w') (h40 : l.length ≤ 40) => rorder_any (.slice a l.length cap) l w' (HROW.out w' hb) (fun _ h => h) (by omega))
  have HO1 := hid (fun w' (hb : Below W.heap.size W w') (hp : ∀ r ∈ l, r.preds.length ≤ 1000000) (hh : hs.length ≤ 1000000) => first_any (.slice a l.length cap) l m h p b hs a0 cap0 kk w' (HROW.out w' hb) (HWF.out w' hb) (HRV.out w' hb) hh (by omega) (fun r hr => Nat.le_trans (hp r hr) (by decide)) hkk)
  have HO2 := hid (fun w' (hb : Below W.heap.size W w') (hp : ∀ r ∈ l, r.preds.length ≤ 1000000) (hh : hs.length ≤ 1000000) => rfirst_any (.slice a l.length cap) l m h p b hs a0 cap0 kk w' (HROW.out w' hb) (HWF.out w' hb) (HRV.out w' hb) hh (by omega) (fun r hr => Nat.le_trans (hp r hr) (by decide)) hkk)
  clear hq1 hq3 hkk hl hw hll hq
  go_enter Try.func10, Try.ntmps10
  go_upto_region 1 with fail
  refine wp_gen ?_
  intro w1 hw1
  have hb1 : Below W.heap.size W w1 := by rw [hw1]; go_grown
  have hk1 : Blk w1 W.heap.size #[.string m, .string h, .string p, .slice a0 hs.length cap0, .string b] 67 := by rw [hw1]; exact Blk.new _ _ _
  clear hw1
  have HB1 := hid hb1
  have HX1 := hid hk1
  clear hb1 hk1
  go_wp2_with fail
  refine (HF.out _ HB1.out).mono ?_
  rintro e w2 ⟨rfl, hb2⟩
  have HB2 := hid (HB1.out.trans (hb2.mono HB1.out.size))
  have HX2 := hid (HX1.out.later hb2)
  clear hb2
  cases q1
  · go_wp2_with fail
    refine (HK.out _).mono ?_
    rintro e wk ⟨rfl, hbk⟩
    have HBK := hid (HB2.out.trans (hbk.mono HB2.out.size))
    clear hbk
    go_wp2_with fail
    go_ret
    exact ⟨rfl, HBK.out⟩
  have HP := hid (HPS1.out (by first | rfl | trivial)).2
  have HL40 := hid (HPS1.out (by first | rfl | trivial)).1
  clear HPS1 HF
  have x0 : w2.cell? ⟨W.heap.size, 0, none⟩ = some (.string m) := HX2.out.cell 0
  have x1 : w2.cell? ⟨W.heap.size, 1, none⟩ = some (.string h) := HX2.out.cell 1
  have x2 : w2.cell? ⟨W.heap.size, 2, none⟩ = some (.string p) := HX2.out.cell 2
  have x3 : w2.cell? ⟨W.heap.size, 3, none⟩ = some (.slice a0 hs.length cap0) := HX2.out.cell 3
  have x4 : w2.cell? ⟨W.heap.size, 4, none⟩ = some (.string b) := HX2.out.cell 4
  go_wp2_with fail
  refine (HSH.out _ HB2.out).mono ?_
  rintro e w3 ⟨rfl, hb3⟩
  have HB3 := hid (HB2.out.trans (hb3.mono HB2.out.size))
  have HX3 := hid (HX2.out.later hb3)
  clear hb3 x0 x1 x2 x3 x4
  cases q3
  · go_wp2_with fail
    refine (HK.out _).mono ?_
    rintro e wk ⟨rfl, hbk⟩
    have HBK := hid (HB3.out.trans (hbk.mono HB3.out.size))
    clear hbk
    go_wp2_with fail
    go_ret
    exact ⟨rfl, HBK.out⟩
  have HH := hid (HH1.out (by first | rfl | trivial))
  clear HH1 HSH
  go_wp2_with fail
  go_loopw [5] (fun i wr => ∃ k : Nat, k ≤ l.length ∧ i = .int .i64 k ∧ Hid (Below W.heap.size W wr) ∧ Hid (Blk wr W.heap.size #[.string m, .string h, .string p, .slice a0 hs.length cap0, .string b] 67)) (fun i _ => l.length - (intOf i).toNat)
  case atStart => exact ⟨0, Nat.zero_le _, rfl, HB3, HX3⟩
  case round =>
    obtain ⟨k, hk, rfl, HB4, HX4⟩ := hrel
    clear HB3 HX3 HB2 HX2 HB1 HX1
    have x0 : wr.cell? ⟨W.heap.size, 0, none⟩ = some (.string m) := HX4.out.cell 0
    have x1 : wr.cell? ⟨W.heap.size, 1, none⟩ = some (.string h) := HX4.out.cell 1
    have x2 : wr.cell? ⟨W.heap.size, 2, none⟩ = some (.string p) := HX4.out.cell 2
    have x3 : wr.cell? ⟨W.heap.size, 3, none⟩ = some (.slice a0 hs.length cap0) := HX4.out.cell 3
    have x4 : wr.cell? ⟨W.heap.size, 4, none⟩ = some (.string b) := HX4.out.cell 4
    have hwr := HX4.out.lt
    have hl40 := HL40.out
    by_cases hlt : k < l.length
    · obtain ⟨y, hy⟩ : ∃ y, l[k] = y := ⟨_, rfl⟩
      obtain ⟨g, off, rfl, hgb, hc⟩ : ∃ g off, a = some ⟨g, off, none⟩ ∧ g < wr.heap.size ∧ ∀ j u, y.enc[j]? = some u → wr.cell? ⟨g, off + k * 10 + j, none⟩ = some u := by
        obtain ⟨a', c', e, _, _, _, h5⟩ := HROW.out wr HB4.out
        cases e
        rcases h5 with h5 | ⟨g, off, h1, h2, h3⟩
        · rw [h5] at hlt; simp at hlt
        · exact ⟨g, off, h1, h2, fun j u hu => h3 k hlt j u (by rw [hy]; exact hu)⟩
      obtain ⟨c0, c1, c2, c3, c4, c5, c6, c7, c8, c9⟩ := Rl.cells hc
      obtain ⟨qh, hqh⟩ : ∃ q, C11.allR m h p hs y.preds = q := ⟨_, rfl⟩
      have hym : y ∈ l := by rw [← hy]; exact List.getElem_mem hlt
      have X1 : Hid (∀ z : BW wr, Calls Try.prog 49 #[.agg #[.int .i64 y.rank, .slice y.pa y.preds.length y.pcap, .string y.target, .int .i64 y.ap, .int .i64 y.as_, .int .i64 y.dp, .int .i64 y.dt, .int .i64 y.mp, .string y.mirror, .int .i64 y.sample], .agg #[.string m, .string h, .string p, .slice a0 hs.length cap0, .string b]] z.val fun e w' => e = .returned (.bool qh) ∧ Below z.val.heap.size z.val w') := hid (fun z =>
        have hb := HB4.out.trans (z.prop.mono HB4.out.size)
        C16.hits_any y m h p b hs a0 cap0 qh z.val (HWF.out _ hb y hym) (HRV.out _ hb) (Nat.le_refl _) HH.out (Nat.le_trans (HP.out y hym) (by decide)) hqh)
      have X2 : Hid (∀ z : BW wr, Calls Try.prog 50 #[.agg #[.int .i64 y.rank, .slice y.pa y.preds.length y.pcap, .string y.target, .int .i64 y.ap, .int .i64 y.as_, .int .i64 y.dp, .int .i64 y.dt, .int .i64 y.mp, .string y.mirror, .int .i64 y.sample], .agg #[.string m, .string h, .string p, .slice a0 hs.length cap0, .string b]] z.val fun e w' => e = .returned (.bool qh) ∧ Below z.val.heap.size z.val w') := hid (fun z =>
        have hb := HB4.out.trans (z.prop.mono HB4.out.size)
        C16.rhits_any y m h p b hs a0 cap0 qh z.val (HWF.out _ hb y hym) (HRV.out _ hb) (Nat.le_refl _) HH.out (Nat.le_trans (HP.out y hym) (by decide)) hqh)
      have hqq : (qh == qh) = true := by simp
      have hqn : (qh != qh) = false := by simp
      clear hc hy hqh hym
      go_wp2_with fail
      refine wp_region_bw (by kernel_rfl) (by kernel_rfl) ?_
      repeat (go_big_quiet_step ((first | (go_at_call 49; exact bw_call (X1.out _)) | (go_at_call 50; exact bw_call (X2.out _)))))
      refine wpQuiet_nil ?_
      rintro w5 ⟨⟨_, hb5⟩, rfl⟩
      have HB5 := hid (HB4.out.trans (hb5.mono HB4.out.size))
      have HX5 := hid (HX4.out.later hb5)
      clear hb5 X1 X2 x0 x1 x2 x3 x4 c0 c1 c2 c3 c4 c5 c6 c7 c8 c9
      go_wp2_with fail
      go_roundw
      case rel => exact ⟨k + 1, by omega, by go_num, HB5, HX5⟩
      case measure => simp [intOf]; omega
    · obtain rfl : k = l.length := by omega
      have KEEP : Hid (∀ w', Below wr.heap.size wr w' → w'.cell? ⟨W.heap.size, 0, none⟩ = some (.string m) ∧ w'.cell? ⟨W.heap.size, 1, none⟩ = some (.string h) ∧ w'.cell? ⟨W.heap.size, 2, none⟩ = some (.string p) ∧ w'.cell? ⟨W.heap.size, 3, none⟩ = some (.slice a0 hs.length cap0) ∧ w'.cell? ⟨W.heap.size, 4, none⟩ = some (.string b)) := hid (fun w' hb =>
        have hh := HX4.out.later hb
        ⟨hh.cell 0, hh.cell 1, hh.cell 2, hh.cell 3, hh.cell 4⟩)
      have hgo := fun w' (hb : Below wr.heap.size wr w') => (HB4.out.trans (hb.mono HB4.out.size) : Below W.heap.size W w')
      have XO : Hid (∀ w', Below wr.heap.size wr w' → Calls Try.prog 52 #[.slice a l.length cap] w' fun e w'' => ∃ v, e = .returned v ∧ OrdV w' l v w'' ∧ Below wr.heap.size wr w'') := hid (fun w' hb => (HO.out w' (hgo w' hb) HL40.out HP.out).mono (by
        rintro e w'' ⟨v, rfl, ho⟩
        exact ⟨v, rfl, OrdV.of_ord ho, hb.trans ((OrdV.of_ord ho).choose_spec.choose_spec.choose_spec.2.2.1.mono hb.size)⟩))
      have XR : Hid (∀ w', Below wr.heap.size wr w' → Calls Try.prog 53 #[.slice a l.length cap] w' fun e w'' => ∃ v, e = .returned v ∧ OrdV w' l v w'' ∧ Below wr.heap.size wr w'') := hid (fun w' hb => (HR.out w' (hgo w' hb) HL40.out).mono (by
        rintro e w'' ⟨v, rfl, ho⟩
        have ho2 := OrdV.of_rord (fun x hx => (HWF.out w' (hgo w' hb) x hx).rows) ho
        exact ⟨v, rfl, ho2, hb.trans (ho2.choose_spec.choose_spec.choose_spec.2.2.1.mono hb.size)⟩))
      have XS : Hid (∀ w', Below wr.heap.size wr w' → ∀ (l1 l2 : List Rl) (a1 a2 : Option Addr) (c1 c2 : Nat), l1.length = l.length → l2.length = l.length → l1.map Rl.core = (Srt.order Rl.rank l).map Rl.core → l2.map Rl.core = (Srt.order Rl.rank l).map Rl.core → (RowsOf (· < w'.heap.size) Rl.enc 10 w' (.slice a1 l.length c1) l1 ∧ ∀ x ∈ l1, x.At (· < w'.heap.size) w') → (RowsOf (· < w'.heap.size) Rl.enc 10 w' (.slice a2 l.length c2) l2 ∧ ∀ x ∈ l2, x.At (· < w'.heap.size) w') → Calls Try.prog 51 #[.slice a1 l.length c1, .slice a2 l.length c2] w' fun e w'' => e = .returned (.bool true) ∧ Below wr.heap.size wr w'') := hid (fun w' hb l1 l2 a1 a2 c1 c2 n1 n2 e1 e2 r1 r2 =>
        have hps : ∀ r ∈ Srt.order Rl.rank l, r.preds.length ≤ 1000000000000 := fun r hr => Nat.le_trans (HP.out r ((Srt.order_mem Rl.rank r l).1 hr)) (by decide)
        (same_any (.slice a1 l.length c1) (.slice a2 l.length c2) l1 l2 true w' r1.1 r2.1 r1.2 r2.2 (by have := HL40.out; omega) (by have := HL40.out; omega) (core_psl e1 hps) (core_psl e2 hps) ((sameB_core l1 l2).2 (e1.trans e2.symm))).mono (fun e w'' hh => ⟨hh.1, hb.trans (hh.2.mono hb.size)⟩))
      have X3 : Hid (∀ w', Below wr.heap.size wr w' → Calls Try.prog 54 #[.slice a l.length cap, .agg #[.string m, .string h, .string p, .slice a0 hs.length cap0, .string b]] w' fun e w'' => e = .returned (.int .i64 kk) ∧ Below wr.heap.size wr w'') := hid (fun w' hb => (HO1.out w' (hgo w' hb) HP.out HH.out).mono (fun e w'' hh => ⟨hh.1, hb.trans (hh.2.mono hb.size)⟩))
      have X4 : Hid (∀ w', Below wr.heap.size wr w' → Calls Try.prog 55 #[.slice a l.length cap, .agg #[.string m, .string h, .string p, .slice a0 hs.length cap0, .string b]] w' fun e w'' => e = .returned (.int .i64 kk) ∧ Below wr.heap.size wr w'') := hid (fun w' hb => (HO2.out w' (hgo w' hb) HP.out HH.out).mono (fun e w'' hh => ⟨hh.1, hb.trans (hh.2.mono hb.size)⟩))
      have X5 : Hid (∀ w', Below wr.heap.size wr w' → Calls Try.prog 44 #[] w' fun e w'' => e = .returned (.bool true) ∧ Below wr.heap.size wr w'') := hid (fun w' hb => (HK.out w').mono (fun e w'' hh => ⟨hh.1, hb.trans (hh.2.mono hb.size)⟩))
      have hgo2 := hid hgo
      have hkq : ((kk : Int) == kk) = true := by simp
      clear hgo HO HR HO1 HO2 hlt HROW HWF HRV HX4 HP HL40 HH
      go_wp2_with fail
      go_region_held3 (fun w' => w'.cell? ⟨W.heap.size, 0, none⟩ = some (.string m) ∧ w'.cell? ⟨W.heap.size, 1, none⟩ = some (.string h) ∧ w'.cell? ⟨W.heap.size, 2, none⟩ = some (.string p) ∧ w'.cell? ⟨W.heap.size, 3, none⟩ = some (.slice a0 hs.length cap0) ∧ w'.cell? ⟨W.heap.size, 4, none⟩ = some (.string b)) ((refine KEEP.out _ ?_; (first | assumption | exact Below.refl _ _ | exact (Below.refl _ _).drew)))
        ((first
          | (go_at_call 52; refine (XO.out _ (by first | assumption | exact Below.refl _ _ | exact (Below.refl _ _).drew)).mono ?_; rintro e wo ⟨v, rfl, ⟨lo, ao, co, rfl, hol, hoB, hoc, HOr⟩, hoW⟩)
          | (go_at_call 53; refine (XR.out _ (by first | assumption | exact Below.refl _ _ | exact (Below.refl _ _).drew)).mono ?_; rintro e wz ⟨v, rfl, ⟨lz, az, cz, rfl, hzl, hzB, hzc, HZr⟩, hzW⟩)
          | (go_at_call 51; refine (XS.out _ (by assumption) lo lz ao az co cz hol hzl hoc hzc (HOr.out _ (by first | assumption | exact Below.refl _ _)) (HZr.out _ (by first | assumption | exact Below.refl _ _))).mono ?_; rintro e ws ⟨rfl, hsW⟩)
          | (go_at_call 54; refine (X3.out _ (by assumption)).mono ?_; rintro e wf ⟨rfl, hfW⟩)
          | (go_at_call 55; refine (X4.out _ (by assumption)).mono ?_; rintro e wg ⟨rfl, hgW⟩)
          | (go_at_call 44; refine (X5.out _ (by assumption)).mono ?_; rintro e wk ⟨rfl, hkW⟩)))
      all_goals
        have HZ := hid hkW
        clear hkW
        go_wp2_with fail
        go_ret
        exact ⟨rfl, hgo2.out _ HZ.out⟩
end C12
end Go.Proofs.Ytmmmaldpalhjeaa
