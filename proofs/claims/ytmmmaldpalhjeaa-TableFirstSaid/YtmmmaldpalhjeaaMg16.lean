/- Plain law of layers 12 and 14: the rule that is found among those by rank is the one that hits; no program in sight but its words. Walks of layer 12 (rule): the document's First; no condition. The law TableFirst walked (14); no condition. -/
import Derived.Test.YtmmmaldpalhjeaaMg12
import Derived.Test.YtmmmaldpalhjeaaMg11
import Derived.Deep.Cut
namespace Go.Peri
namespace Srt
theorem falls_filter {α : Type} (f : α → Int) (p : α → Bool) : ∀ l : List α, Falls f l → Falls f (l.filter p)
  | [], _ => trivial
  | x :: l, h => by
    rw [List.filter_cons]
    split
    · exact ⟨fun y hy => h.1 y (List.mem_filter.1 hy).1, falls_filter f p l h.2⟩
    · exact falls_filter f p l h.2
theorem order_filter_hit {α : Type} (f : α → Int) (p : α → Bool) (l : List α) : (order f l).filter p = order f (l.filter p) := by
  refine eq_of_filter f _ _ (falls_filter f p _ (falls_order f l)) (falls_order f _) fun k => ?_
  have e : ∀ m : List α, (m.filter p).filter (fun y => decide (f y = k)) = (m.filter (fun y => decide (f y = k))).filter p := fun m => by
    rw [List.filter_filter, List.filter_filter]
    congr 1
    funext y
    exact Bool.and_comm _ _
  rw [e, order_filter, order_filter, ← e]
theorem ins_head {α : Type} (f : α → Int) (x : α) (l : List α) : (ins f x l).head? = match l.head? with | none => some x | some y => if f x ≤ f y then some y else some x := by
  cases l with
  | nil => rfl
  | cons y l =>
    show (if f x ≤ f y then y :: ins f x l else x :: y :: l).head? = if f x ≤ f y then some y else some x
    split <;> rfl
end Srt
end Go.Peri
namespace Go.Proofs.Ytmmmaldpalhjeaa
open Go.RowKit Go.Peri
namespace C12
theorem firstI_head (hit : Rl → Bool) (l : List Rl) : ∀ k, k ≤ l.length → (firstI hit l k = -1 ∧ (Srt.order Rl.rank ((l.take k).filter hit)).head? = none) ∨ ∃ n : Nat, ∃ hn : n < l.length, n < k ∧ firstI hit l k = n ∧ hit l[n] = true ∧ (Srt.order Rl.rank ((l.take k).filter hit)).head? = some l[n]
  | 0, _ => .inl ⟨rfl, rfl⟩
  | k + 1, hk => by
    have hlt : k < l.length := by omega
    have hs : (l.take (k + 1)).filter hit = (l.take k).filter hit ++ (if hit l[k] = true then [l[k]] else []) := by
      rw [List.take_succ_eq_append_getElem hlt, List.filter_append]
      cases hb : hit l[k] <;> simp [hb]
    rcases firstI_head hit l k (by omega) with ⟨h1, h2⟩ | ⟨n, hn, hnk, h1, hh, h2⟩
    · have e := firstI_neg hit l k hlt (by omega)
      cases hb : hit l[k]
      · rw [hb, if_neg (by simp)] at e hs
        rw [List.append_nil] at hs
        exact .inl ⟨by rw [e, h1], by rw [hs, h2]⟩
      · rw [hb, if_pos rfl] at e hs
        refine .inr ⟨k, hlt, by omega, e, hb, ?_⟩
        rw [hs, Srt.order_snoc, Srt.ins_head, h2]
    · have e := firstI_pos hit l k n hlt hn h1
      cases hb : hit l[k]
      · rw [hb, Bool.false_and, if_neg (by simp)] at e
        rw [hb, if_neg (by simp), List.append_nil] at hs
        exact .inr ⟨n, hn, by omega, by rw [e, h1], hh, by rw [hs, h2]⟩
      · rw [hb, Bool.true_and] at e
        rw [hb, if_pos rfl] at hs
        rw [hs, Srt.order_snoc, Srt.ins_head, h2]
        by_cases hr : l[n].rank < l[k].rank
        · rw [if_pos (decide_eq_true hr)] at e
          exact .inr ⟨k, hlt, by omega, e, hb, by show (if l[k].rank ≤ l[n].rank then some l[n] else some l[k]) = _; rw [if_neg (by omega)]⟩
        · rw [if_neg (by simpa using hr)] at e
          exact .inr ⟨n, hn, by omega, by rw [e, h1], hh, by show (if l[k].rank ≤ l[n].rank then some l[n] else some l[k]) = _; rw [if_pos (by omega)]⟩
/-- What is found by rank is the first one that hits there. -/
theorem first_find (hit : Rl → Bool) (l : List Rl) : (firstR hit l = -1 ∧ (Srt.order Rl.rank l).find? hit = none) ∨ ∃ n : Nat, ∃ hn : n < l.length, firstR hit l = n ∧ (Srt.order Rl.rank l).find? hit = some l[n] := by
  have e : ∀ m : List Rl, m.find? hit = (m.filter hit).head? := fun m => (List.head?_filter).symm
  rw [e, Srt.order_filter_hit]
  rcases firstI_head hit l l.length (Nat.le_refl _) with ⟨h1, h2⟩ | ⟨n, hn, _, h1, _, h2⟩
  · rw [List.take_length] at h2
    exact .inl ⟨h1, h2⟩
  · rw [List.take_length] at h2
    exact .inr ⟨n, hn, h1, h2⟩
end C12
namespace C14
theorem find_ix (hit : Rl → Bool) : ∀ l : List Rl, (l.find? hit = none → l.length ≤ l.findIdx hit) ∧ ∀ x, l.find? hit = some x → ∃ h : l.findIdx hit < l.length, l[l.findIdx hit] = x
  | [] => ⟨fun _ => by simp, fun x h => by simp at h⟩
  | y :: l => by
    obtain ⟨ih1, ih2⟩ := find_ix hit l
    cases hy : hit y
    · have e1 : (y :: l).find? hit = l.find? hit := by simp [hy]
      have e2 : (y :: l).findIdx hit = l.findIdx hit + 1 := by simp [List.findIdx_cons, hy]
      rw [e1]
      refine ⟨fun h => by rw [e2, List.length_cons]; have := ih1 h; omega, fun x h => ?_⟩
      obtain ⟨h1, h2⟩ := ih2 x h
      refine ⟨by rw [e2, List.length_cons]; omega, ?_⟩
      simp only [e2]
      exact h2
    · have e1 : (y :: l).find? hit = some y := by simp [hy]
      have e2 : (y :: l).findIdx hit = 0 := by simp [List.findIdx_cons, hy]
      rw [e1]
      refine ⟨fun h => by simp at h, fun x h => ⟨by rw [e2]; simp, ?_⟩⟩
      simp only [e2]
      exact Option.some.inj h
theorem look_none' {m h p : ByteArray} {hs : List Hd} {l : List Rl} (hf : (Srt.order Rl.rank l).find? (fun r => C11.allR m h p hs r.preds) = none) : C16.lookR m h p hs (Srt.order Rl.rank l) = -1 := by
  have := (find_ix _ _).1 hf
  unfold C16.lookR C16.ix
  rw [if_neg (by omega)]
theorem look_some' {m h p : ByteArray} {hs : List Hd} {l : List Rl} {x : Rl} (hf : (Srt.order Rl.rank l).find? (fun r => C11.allR m h p hs r.preds) = some x) : ∃ i : Nat, ∃ hi : i < (Srt.order Rl.rank l).length, C16.lookR m h p hs (Srt.order Rl.rank l) = i ∧ (Srt.order Rl.rank l)[i] = x := by
  obtain ⟨h1, h2⟩ := (find_ix _ _).2 x hf
  refine ⟨_, h1, ?_, h2⟩
  unfold C16.lookR C16.ix
  rw [if_pos h1]
theorem bad_of_all {ns : List ByteArray} : ∀ {l : List Rl}, (∀ r ∈ l, ruleR ns r = 0) → badR ns l = 0
  | [], _ => rfl
  | x :: l, h => by
    unfold badR
    rw [if_pos (h x (by simp))]
    exact bad_of_all fun r hr => h r (by simp [hr])
theorem cfg_order {f : ByteArray} {l : List Rl} {ns : List ByteArray} (h : cfgR f l ns = 0) : cfgR f (Srt.order Rl.rank l) ns = 0 := by
  have h1 := badR_zero (cfg_bad h)
  have h2 : badR ns (Srt.order Rl.rank l) = 0 := bad_of_all fun r hr => h1 r ((Srt.order_mem Rl.rank r l).1 hr)
  unfold cfgR at h ⊢
  rw [h2, Srt.order_length]
  split at h
  · cases h
  · rename_i h3
    rw [if_neg h3]
    split at h
    · cases h
    · rename_i h4
      rw [if_neg h4]
theorem ver1 : verR 1 = true := by decide
/-- TableFirst's facts. -/
theorem first_facts {f : ByteArray} {l l1 : List Rl} {ns : List ByteArray} (hc : compR 1 f l ns = 0) (h1 : l1.map Rl.core = (Srt.order Rl.rank l).map Rl.core) :
    compR 1 f l1 ns = 0 ∧ wholeB 1 f l1 ns = true ∧ ∀ l2 : List Rl, l2.map Rl.core = (Srt.order Rl.rank l1).map Rl.core → C12.sameB l1 l2 = true := by
  have hcf : cfgR f l ns = 0 := by
    unfold compR at hc
    rw [ver1, if_neg (by simp)] at hc
    exact hc
  have hc1 : cfgR f l1 ns = 0 := by rw [cfg_core f ns h1]; exact cfg_order hcf
  have hfl : Srt.Falls Rl.rank l1 := falls_core h1 (Srt.falls_order _ _)
  refine ⟨?_, ?_, fun l2 h2 => ?_⟩
  · unfold compR
    rw [ver1, if_neg (by simp), hc1]
  · unfold wholeB
    rw [ver1, hc1, (fallsB_falls l1 (cfg_rank hc1)).2 hfl]
    rfl
  · rw [C12.sameB_core, h2, Srt.order_of_falls _ _ hfl]
theorem whole_not {f : ByteArray} {l : List Rl} {ns : List ByteArray} (hc : compR 1 f l ns ≠ 0) : wholeB 1 f l ns = false := by
  unfold compR at hc
  rw [ver1, if_neg (by simp)] at hc
  unfold wholeB
  rw [decide_eq_false hc, Bool.and_false]
  rfl
end C14
end Go.Proofs.Ytmmmaldpalhjeaa
namespace Go.Proofs.Ytmmmaldpalhjeaa
open Go.RowKit Go.Peri
namespace C12
set_option maxRecDepth 100000 in
set_option maxHeartbeats 2000000 in
theorem rfirst_any (v : Value) (l : List Rl) (m h p b : ByteArray) (hs : List Hd) (a0 : Option Addr) (cap0 : Nat) (r : Int) (W : World) (hl : RowsOf (· < W.heap.size) Rl.enc 10 W v l) (hw : ∀ r ∈ l, r.Wf W W.heap.size) (hq : ReqV W W.heap.size m h p b hs a0 cap0) (hn : hs.length ≤ 1000000) (hll : l.length ≤ 10000000000000) (hps : ∀ r ∈ l, r.preds.length ≤ 1000000000) (hr : firstR (fun r => C11.allR m h p hs r.preds) l = r) :
    Calls Try.prog 55 #[v, .agg #[.string m, .string h, .string p, .slice a0 hs.length cap0, .string b]] W fun e w' => e = .returned (.int .i64 r) ∧ Below W.heap.size W w' := by
  obtain ⟨a, cap, rfl, hlc, hcm, _, hcell⟩ := hl
  have HC := hid hcell
  have HR := hid hr
  have HIT := hid (fun (x : Rl) (q : Bool) (w' : World) (hx : x ∈ l) (hh : C11.allR m h p hs x.preds = q) (hb : Below W.heap.size W w') => C16.rhits_any x m h p b hs a0 cap0 q w' ((hw x hx).below hb) (hq.below hb) hb.size hn (hps x hx) hh)
  clear hcell hw hq hps hr
  go_enter Try.func55, Try.ntmps55
  go_upto_region 1 with fail
  refine wp_gen ?_
  intro w0 hw0
  have hb0 : Below W.heap.size W w0 := by rw [hw0]; go_grown
  have hk0 : Blk w0 W.heap.size #[.string m, .string h, .string p, .slice a0 hs.length cap0, .string b] 67 := by rw [hw0]; exact Blk.new _ _ _
  clear hw0
  have HB0 := hid hb0
  have HK0 := hid hk0
  have hlt0 := hk0.lt
  clear hb0 hk0
  go_wp2_with fail
  go_loopw [5, 6] (fun best i wr => ∃ k : Nat, k ≤ l.length ∧ i = .int .i64 k ∧ best = .int .i64 (firstI (fun r => C11.allR m h p hs r.preds) l k) ∧ Below w0.heap.size w0 wr) (fun _ i _ => l.length - (intOf i).toNat)
  case atStart => exact ⟨0, Nat.zero_le _, rfl, rfl, Below.refl _ _⟩
  case round =>
    obtain ⟨k, hk, rfl, rfl, hb⟩ := hrel
    have HB := hid hb
    have hws := hb.size
    clear hb
    by_cases hlt : k < l.length
    · obtain ⟨bb, off, rfl, hpb, hc⟩ := HC.out.resolve_left (by intro e; rw [e] at hlt; simp at hlt)
      have HBW : Hid (Below W.heap.size W wr) := HB0.out.trans (HB.out.mono HB0.out.size)
      have hbl : bb < wr.heap.size := Nat.lt_of_lt_of_le hpb HBW.out.size
      obtain ⟨c0, c1, c2, c3, c4, c5, c6, c7, c8, c9⟩ := Rl.cells (fun j u hu => (HBW.out.cell (p := ⟨bb, off + k * 10 + j, none⟩) hpb).trans (hc k hlt j u hu))
      have hkr := HK0.out.later HB.out
      have y0 : wr.cell? ⟨W.heap.size, 0, none⟩ = some (.string m) := hkr.cell 0
      have y1 : wr.cell? ⟨W.heap.size, 1, none⟩ = some (.string h) := hkr.cell 1
      have y2 : wr.cell? ⟨W.heap.size, 2, none⟩ = some (.string p) := hkr.cell 2
      have y3 : wr.cell? ⟨W.heap.size, 3, none⟩ = some (.slice a0 hs.length cap0) := hkr.cell 3
      have y4 : wr.cell? ⟨W.heap.size, 4, none⟩ = some (.string b) := hkr.cell 4
      have hltq := hkr.lt
      clear hkr
      have HFN := hid (firstI_neg (fun r => C11.allR m h p hs r.preds) l k hlt)
      have HFP := hid (fun n hn he => firstI_pos (fun r => C11.allR m h p hs r.preds) l k n hlt hn he)
      obtain ⟨bq, hbq⟩ : ∃ bq, C11.allR m h p hs l[k].preds = bq := ⟨_, rfl⟩
      have HHC := hid (fun w' (hb : Below W.heap.size W w') => HIT.out l[k] bq w' (List.getElem_mem hlt) hbq hb)
      have hbn := firstI_lt (fun r => C11.allR m h p hs r.preds) l k
      have HIX : Hid (∀ n (hn : n < l.length), wr.cell? ⟨bb, off + n * 10, none⟩ = some (.int .i64 l[n].rank)) := hid (fun n hn => (Rl.cells (fun j u hu => (HBW.out.cell (p := ⟨bb, off + n * 10 + j, none⟩) hpb).trans (hc n hn j u hu))).1)
      simp only [hbq] at HFN HFP
      obtain ⟨bst, hbst⟩ : ∃ z, firstI (fun r => C11.allR m h p hs r.preds) l k = z := ⟨_, rfl⟩
      obtain ⟨nxt, hnxt⟩ : ∃ z, firstI (fun r => C11.allR m h p hs r.preds) l (k + 1) = z := ⟨_, rfl⟩
      rw [hnxt, hbst] at HFN
      rw [hbst] at hbn
      rw [hnxt] at HFP
      have HNX := hid hnxt
      have HBS := hid hbst
      rw [hbst]
      have i1 : (0 : Int) ≤ (k : Int) := by omega
      have i2 : (k : Int) < (l.length : Int) := by omega
      clear hbq hnxt hc
      rw [hbst] at HFP
      clear hbst
      generalize l[k] = x at c0 c1 c2 c3 c4 c5 c6 c7 c8 c9 HHC HFP
      by_cases hb0 : bst < 0
      · have HV0 := hid (HFN.out hb0)
        cases bq
        · have HV : Hid (nxt = bst) := hid (by rw [HV0.out]; rfl)
          clear HV0 HFN HFP HIX
          have X : Hid (∀ z : BW wr, Calls Try.prog 50 #[.agg #[.int .i64 x.rank, .slice x.pa x.preds.length x.pcap, .string x.target, .int .i64 x.ap, .int .i64 x.as_, .int .i64 x.dp, .int .i64 x.dt, .int .i64 x.mp, .string x.mirror, .int .i64 x.sample], .agg #[.string m, .string h, .string p, .slice a0 hs.length cap0, .string b]] z.val fun e w' => e = .returned (.bool false) ∧ Below z.val.heap.size z.val w') := hid (fun z => HHC.out z.val (HBW.out.trans (z.prop.mono HBW.out.size)))
          go_wp2_with fail
          refine wp_region_bw (by kernel_rfl) (by kernel_rfl) ?_
          repeat (go_big_quiet_step ((go_at_call 50; exact bw_call (X.out _))))
          refine wpQuiet_nil ?_
          rintro w2 ⟨⟨_, hb2⟩, rfl⟩
          have HB2 : Hid (Below w0.heap.size w0 w2) := HB.out.trans (hb2.mono HB.out.size)
          clear hb2
          go_wp2_with fail
          go_roundw
          case rel => exact ⟨k + 1, by omega, by go_num, by rw [HNX.out, HV.out], HB2.out⟩
          case measure => simp [intOf]; omega
        · have HV : Hid (nxt = k) := hid (by rw [HV0.out]; rfl)
          clear HV0 HFN HFP HIX
          have X : Hid (∀ z : BW wr, Calls Try.prog 50 #[.agg #[.int .i64 x.rank, .slice x.pa x.preds.length x.pcap, .string x.target, .int .i64 x.ap, .int .i64 x.as_, .int .i64 x.dp, .int .i64 x.dt, .int .i64 x.mp, .string x.mirror, .int .i64 x.sample], .agg #[.string m, .string h, .string p, .slice a0 hs.length cap0, .string b]] z.val fun e w' => e = .returned (.bool true) ∧ Below z.val.heap.size z.val w') := hid (fun z => HHC.out z.val (HBW.out.trans (z.prop.mono HBW.out.size)))
          go_wp2_with fail
          refine wp_region_bw (by kernel_rfl) (by kernel_rfl) ?_
          repeat (go_big_quiet_step ((go_at_call 50; exact bw_call (X.out _))))
          refine wpQuiet_nil ?_
          rintro w2 ⟨⟨_, hb2⟩, rfl⟩
          have HB2 : Hid (Below w0.heap.size w0 w2) := HB.out.trans (hb2.mono HB.out.size)
          clear hb2
          go_wp2_with fail
          go_roundw
          case rel => exact ⟨k + 1, by omega, by go_num, by rw [HNX.out, HV.out], HB2.out⟩
          case measure => simp [intOf]; omega
      · obtain ⟨n, rfl⟩ : ∃ n : Nat, bst = n := ⟨bst.toNat, by omega⟩
        have hnl : n < l.length := by omega
        have f0 := HIX.out n hnl
        have HV0 := hid (HFP.out n hnl rfl)
        have j1 : (0 : Int) ≤ (n : Int) := by omega
        have j0 : decide ((n : Int) < 0) = false := decide_eq_false (by omega)
        have j3 : ¬ (n : Int) < 0 := by omega
        have j2 : (n : Int) < (l.length : Int) := by omega
        generalize l[n].rank = rn at f0 HV0
        clear HFN HFP HIX hb0
        cases bq
        · have HV : Hid (nxt = n) := hid (by rw [HV0.out]; simp)
          clear HV0
          by_cases hrk : rn < x.rank
          · have X : Hid (∀ z : BW wr, Calls Try.prog 50 #[.agg #[.int .i64 x.rank, .slice x.pa x.preds.length x.pcap, .string x.target, .int .i64 x.ap, .int .i64 x.as_, .int .i64 x.dp, .int .i64 x.dt, .int .i64 x.mp, .string x.mirror, .int .i64 x.sample], .agg #[.string m, .string h, .string p, .slice a0 hs.length cap0, .string b]] z.val fun e w' => e = .returned (.bool false) ∧ Below z.val.heap.size z.val w') := hid (fun z => HHC.out z.val (HBW.out.trans (z.prop.mono HBW.out.size)))
            go_wp2_with fail
            refine wp_region_bw (by kernel_rfl) (by kernel_rfl) ?_
            repeat (go_big_quiet_step ((go_at_call 50; exact bw_call (X.out _))))
            refine wpQuiet_nil ?_
            rintro w2 ⟨⟨_, hb2⟩, rfl⟩
            have HB2 : Hid (Below w0.heap.size w0 w2) := HB.out.trans (hb2.mono HB.out.size)
            clear hb2
            go_wp2_with fail
            go_roundw
            case rel => exact ⟨k + 1, by omega, by go_num, by rw [HNX.out, HV.out], HB2.out⟩
            case measure => simp [intOf]; omega
          · have hrd : decide (rn < x.rank) = false := decide_eq_false hrk
            have X : Hid (∀ z : BW wr, Calls Try.prog 50 #[.agg #[.int .i64 x.rank, .slice x.pa x.preds.length x.pcap, .string x.target, .int .i64 x.ap, .int .i64 x.as_, .int .i64 x.dp, .int .i64 x.dt, .int .i64 x.mp, .string x.mirror, .int .i64 x.sample], .agg #[.string m, .string h, .string p, .slice a0 hs.length cap0, .string b]] z.val fun e w' => e = .returned (.bool false) ∧ Below z.val.heap.size z.val w') := hid (fun z => HHC.out z.val (HBW.out.trans (z.prop.mono HBW.out.size)))
            go_wp2_with fail
            refine wp_region_bw (by kernel_rfl) (by kernel_rfl) ?_
            repeat (go_big_quiet_step ((go_at_call 50; exact bw_call (X.out _))))
            refine wpQuiet_nil ?_
            rintro w2 ⟨⟨_, hb2⟩, rfl⟩
            have HB2 : Hid (Below w0.heap.size w0 w2) := HB.out.trans (hb2.mono HB.out.size)
            clear hb2
            go_wp2_with fail
            go_roundw
            case rel => exact ⟨k + 1, by omega, by go_num, by rw [HNX.out, HV.out], HB2.out⟩
            case measure => simp [intOf]; omega
        · by_cases hrk : rn < x.rank
          · have HV : Hid (nxt = k) := hid (by rw [HV0.out]; simp [hrk])
            clear HV0
            have X : Hid (∀ z : BW wr, Calls Try.prog 50 #[.agg #[.int .i64 x.rank, .slice x.pa x.preds.length x.pcap, .string x.target, .int .i64 x.ap, .int .i64 x.as_, .int .i64 x.dp, .int .i64 x.dt, .int .i64 x.mp, .string x.mirror, .int .i64 x.sample], .agg #[.string m, .string h, .string p, .slice a0 hs.length cap0, .string b]] z.val fun e w' => e = .returned (.bool true) ∧ Below z.val.heap.size z.val w') := hid (fun z => HHC.out z.val (HBW.out.trans (z.prop.mono HBW.out.size)))
            go_wp2_with fail
            refine wp_region_bw (by kernel_rfl) (by kernel_rfl) ?_
            repeat (go_big_quiet_step ((go_at_call 50; exact bw_call (X.out _))))
            refine wpQuiet_nil ?_
            rintro w2 ⟨⟨_, hb2⟩, rfl⟩
            have HB2 : Hid (Below w0.heap.size w0 w2) := HB.out.trans (hb2.mono HB.out.size)
            clear hb2
            go_wp2_with fail
            go_roundw
            case rel => exact ⟨k + 1, by omega, by go_num, by rw [HNX.out, HV.out], HB2.out⟩
            case measure => simp [intOf]; omega
          · have HV : Hid (nxt = n) := hid (by rw [HV0.out]; simp [hrk])
            have hrd : decide (rn < x.rank) = false := decide_eq_false hrk
            clear HV0
            have X : Hid (∀ z : BW wr, Calls Try.prog 50 #[.agg #[.int .i64 x.rank, .slice x.pa x.preds.length x.pcap, .string x.target, .int .i64 x.ap, .int .i64 x.as_, .int .i64 x.dp, .int .i64 x.dt, .int .i64 x.mp, .string x.mirror, .int .i64 x.sample], .agg #[.string m, .string h, .string p, .slice a0 hs.length cap0, .string b]] z.val fun e w' => e = .returned (.bool true) ∧ Below z.val.heap.size z.val w') := hid (fun z => HHC.out z.val (HBW.out.trans (z.prop.mono HBW.out.size)))
            go_wp2_with fail
            refine wp_region_bw (by kernel_rfl) (by kernel_rfl) ?_
            repeat (go_big_quiet_step ((go_at_call 50; exact bw_call (X.out _))))
            refine wpQuiet_nil ?_
            rintro w2 ⟨⟨_, hb2⟩, rfl⟩
            have HB2 : Hid (Below w0.heap.size w0 w2) := HB.out.trans (hb2.mono HB.out.size)
            clear hb2
            go_wp2_with fail
            go_roundw
            case rel => exact ⟨k + 1, by omega, by go_num, by rw [HNX.out, HV.out], HB2.out⟩
            case measure => simp [intOf]; omega
    · obtain rfl : k = l.length := by omega
      have HF : Hid (firstI (fun r => C11.allR m h p hs r.preds) l l.length = r) := hid HR.out
      rw [HF.out]
      go_wp2_with fail
      go_ret
      exact ⟨rfl, HB0.out.trans (HB.out.mono HB0.out.size)⟩
end C12
end Go.Proofs.Ytmmmaldpalhjeaa
namespace Go.Proofs.Ytmmmaldpalhjeaa
open Go.RowKit Go.Peri
namespace C14
open C12 (wp_gen namesB names_len sameB)
set_option maxRecDepth 100000 in
set_option maxHeartbeats 16000000 in
theorem first_walk (K : Known) (l : List Rl) (a : Option Addr) (cap : Nat) (f : ByteArray) (ns : List ByteArray) (vn : Value) (m h p b : ByteArray) (hs : List Hd) (a0 : Option Addr) (cap0 : Nat) (W : World) (hr : RowsOf (· < W.heap.size) Rl.enc 10 W (.slice a l.length cap) l) (hw : ∀ r ∈ l, r.Wf W W.heap.size) (hll : l.length * 112 ≤ 140737488351232) (hf : f.size ≤ 140737488351232) (hn : RowsOf (· < W.heap.size) sEnc 1 W vn ns) (hl : ns.length * 16 ≤ 140737488351232) (hq : ReqV W W.heap.size m h p b hs a0 cap0) :
    Calls Try.prog 16 #[.agg #[.slice a l.length cap, .string f], vn, .agg #[.string m, .string h, .string p, .slice a0 hs.length cap0, .string b]] W fun e w' => e = .returned (.bool true) ∧ Below W.heap.size W w' := by
  have HK := hid K
  obtain ⟨q1, hq1⟩ : ∃ q, C16.fewT l f = q := ⟨_, rfl⟩
  obtain ⟨q2, hq2⟩ : ∃ q, namesB ns = q := ⟨_, rfl⟩
  have HROW := hid (fun w' (hb : Below W.heap.size W w') => (hr.below hb (fun _ h => h)).imp (fun b h => Nat.lt_of_lt_of_le h hb.size))
  have HWF := hid (fun w' (hb : Below W.heap.size W w') (r : Rl) (hr' : r ∈ l) => (fun g : r.Wf w' W.heap.size => (⟨g.rows.imp (fun b h => Nat.lt_of_lt_of_le h hb.size), g.len, g.preds, g.rank, g.target, g.mirror⟩ : r.Wf w' w'.heap.size)) ((hw r hr').below hb))
  have HNS := hid (fun w' (hb : Below W.heap.size W w') => (hn.below hb (fun _ h => h)).imp (fun b h => Nat.lt_of_lt_of_le h hb.size))
  have HN := hid (fun w' (hb : Below W.heap.size W w') => names_any vn ns q2 w' (HNS.out w' hb) (by omega) hq2)
  have HL1 : Hid (q2 = true → ns.length ≤ 1000000000000) := hid (fun e => by subst e; have := names_len hq2; omega)
  have HPS1 : Hid (q1 = true → l.length ≤ 40 ∧ ∀ r ∈ l, r.preds.length ≤ 1000000) := hid (fun e => by
    subst e
    unfold C16.fewT at hq1
    rw [Bool.and_eq_true] at hq1
    exact ⟨Rl.few_len hq1.2, fun r hr' => Nat.le_trans (Rl.few_preds hq1.2 r hr') (by decide)⟩)
  obtain ⟨q3, hq3⟩ : ∃ q, C11.short m h p b hs = q := ⟨_, rfl⟩
  have HSH := hid (fun w' (hw : Below W.heap.size W w') => C11.short_any m h p b hs a0 cap0 q3 w' (hq.rows.below hw (fun _ h => h)) (fun b hb => Nat.lt_of_lt_of_le hb hw.size) hq.wf (by have := hq.len; omega) hq.m hq.h hq.p hq.b hq3)
  have HRV := hid (fun w' (hb : Below W.heap.size W w') => (fun g : ReqV w' W.heap.size m h p b hs a0 cap0 => (⟨g.rows.imp (fun b h => Nat.lt_of_lt_of_le h hb.size), g.len, g.wf, g.m, g.h, g.p, g.b⟩ : ReqV w' w'.heap.size m h p b hs a0 cap0)) (hq.below hb))
  have HH1 : Hid (q3 = true → hs.length ≤ 1000000) := hid (fun e => by subst e; have := (C11.short_len hq3).2; omega)
  have HF := hid (fun w' (hb : Below W.heap.size W w') => fewC_any l a cap f q1 w' (HROW.out w' hb) (HWF.out w' hb) (by omega) hf hq1)
  obtain ⟨c, hc⟩ : ∃ c, compR 1 f l ns = c := ⟨_, rfl⟩
  obtain ⟨k, hk⟩ : ∃ k, C12.firstR (fun r => C11.allR m h p hs r.preds) l = k := ⟨_, rfl⟩
  have HFF := hid (C12.first_find (fun r => C11.allR m h p hs r.preds) l)
  rw [hk] at HFF
  obtain ⟨na, ncap, rfl⟩ := hn.form
  have HC1 := hid (fun w' (hb : Below W.heap.size W w') (hp : ∀ r ∈ l, r.preds.length ≤ 1000000) (hl : ns.length ≤ 1000000000000) => compile_any 1 l a cap f ns _ c w' (HROW.out w' hb) (HWF.out w' hb) hp (HNS.out w' hb) hl hf hc)
  have HW1 := hid (fun w' (hb : Below W.heap.size W w') (hp : ∀ r ∈ l, r.preds.length ≤ 1000000) (h40 : l.length ≤ 40) (hl : ns.length ≤ 1000000000000) (hc0 : c ≠ 0) => whole_any 1 l a cap f ns _ false w' (HROW.out w' hb) (HWF.out w' hb) (by omega) hp (HNS.out w' hb) hl hf (whole_not (by rw [hc]; exact hc0)))
  have HFI := hid (fun w' (hb : Below W.heap.size W w') (hp : ∀ r ∈ l, r.preds.length ≤ 1000000) (hh : hs.length ≤ 1000000) => C12.rfirst_any (.slice a l.length cap) l m h p b hs a0 cap0 k w' (HROW.out w' hb) (HWF.out w' hb) (HRV.out w' hb) hh (by omega) (fun r hr => Nat.le_trans (hp r hr) (by decide)) hk)
  have HC0 := hid hc
  clear hq1 hq2 hq3 hr hw hn hl hc hk hq hll
  go_enter Try.func16, Try.ntmps16
  go_upto_region 1 with fail
  refine wp_gen ?_
  intro w1 hw1
  have hb1 : Below W.heap.size W w1 := by rw [hw1]; go_grown
  have hk1 : Blk w1 W.heap.size #[.slice a l.length cap, .string f] 109 := by rw [hw1]; exact (Blk.new _ _ _).alloc _
  have hk2 : Blk w1 (W.heap.size + 1) #[.string m, .string h, .string p, .slice a0 hs.length cap0, .string b] 67 := by rw [hw1]; exact Blk.new' _ _ _ (by simp)
  clear hw1
  have HB1 := hid hb1
  have HX1 := hid hk1
  have HY1 := hid hk2
  have c0 : w1.cell? ⟨W.heap.size, 0, none⟩ = some (.slice a l.length cap) := hk1.cell 0
  have c1 : w1.cell? ⟨W.heap.size, 1, none⟩ = some (.string f) := hk1.cell 1
  clear hb1 hk1 hk2
  go_wp2_with fail
  refine (HF.out _ HB1.out).mono ?_
  rintro e w2 ⟨rfl, hb2⟩
  have HB2 := hid (HB1.out.trans (hb2.mono HB1.out.size))
  have HX2 := hid (HX1.out.later hb2)
  have HY2 := hid (HY1.out.later hb2)
  clear hb2 c0 c1
  cases q1
  · go_wp2_with fail
    refine (HK.out _).mono ?_
    rintro e wk ⟨rfl, hbk⟩
    have HBK := hid (HB2.out.trans (hbk.mono HB2.out.size))
    clear hbk
    go_wp2_with fail
    go_ret
    exact ⟨rfl, HBK.out⟩
  go_wp2_with fail
  refine (HN.out _ HB2.out).mono ?_
  rintro e w3 ⟨rfl, rfl⟩
  cases q2
  · go_wp2_with fail
    refine (HK.out _).mono ?_
    rintro e wk ⟨rfl, hbk⟩
    have HBK := hid (HB2.out.trans (hbk.mono HB2.out.size))
    clear hbk
    go_wp2_with fail
    go_ret
    exact ⟨rfl, HBK.out⟩
  have HP := hid (HPS1.out (by first | rfl | trivial)).2
  have HL40 := hid (HPS1.out (by first | rfl | trivial)).1
  have HL := hid (HL1.out (by first | rfl | trivial))
  have x0 : w2.cell? ⟨W.heap.size + 1, 0, none⟩ = some (.string m) := HY2.out.cell 0
  have x1 : w2.cell? ⟨W.heap.size + 1, 1, none⟩ = some (.string h) := HY2.out.cell 1
  have x2 : w2.cell? ⟨W.heap.size + 1, 2, none⟩ = some (.string p) := HY2.out.cell 2
  have x3 : w2.cell? ⟨W.heap.size + 1, 3, none⟩ = some (.slice a0 hs.length cap0) := HY2.out.cell 3
  have x4 : w2.cell? ⟨W.heap.size + 1, 4, none⟩ = some (.string b) := HY2.out.cell 4
  clear HPS1 HL1 HF HN
  go_wp2_with fail
  refine (HSH.out _ HB2.out).mono ?_
  rintro e w3 ⟨rfl, hb3⟩
  have HB3 := hid (HB2.out.trans (hb3.mono HB2.out.size))
  have HX3 := hid (HX2.out.later hb3)
  have HY3 := hid (HY2.out.later hb3)
  clear hb3 x0 x1 x2 x3 x4
  cases q3
  · go_wp2_with fail
    refine (HK.out _).mono ?_
    rintro e wk ⟨rfl, hbk⟩
    have HBK := hid (HB3.out.trans (hbk.mono HB3.out.size))
    clear hbk
    go_wp2_with fail
    go_ret
    exact ⟨rfl, HBK.out⟩
  have HH := hid (HH1.out (by first | rfl | trivial))
  have c0 : w3.cell? ⟨W.heap.size, 0, none⟩ = some (.slice a l.length cap) := HX3.out.cell 0
  have c1 : w3.cell? ⟨W.heap.size, 1, none⟩ = some (.string f) := HX3.out.cell 1
  clear HH1 HSH
  go_wp2_with fail
  refine (HC1.out _ HB3.out HP.out HL.out).mono ?_
  rintro e w4 ⟨v4, rfl, l1, a1, cap1, rfl, hb4, ht4, hl1⟩
  have HB4 := hid (HB3.out.trans (hb4.mono HB3.out.size))
  have HX4 := hid (HX3.out.later hb4)
  have HY4 := hid (HY3.out.later hb4)
  have HT4 := hid ht4
  have HCL := hid hl1
  clear hb4 ht4 hl1 c0 c1
  by_cases hc0 : c = 0
  rotate_left
  · have e1 : (c == 0) = false := by simpa using hc0
    have e2 : (c != 0) = true := by simpa using hc0
    rw [if_neg hc0, if_neg hc0]
    clear HCL HT4 HFI HFF
    generalize l1.length = m1
    go_upto_region 4 with fail
    refine wp_gen ?_
    intro w5 hw5
    have hb5 : Below w4.heap.size w4 w5 := by rw [hw5]; go_grown
    clear hw5
    have HB5 := hid (HB4.out.trans (hb5.mono HB4.out.size))
    have hx5 := HX4.out.later hb5
    have c0 : w5.cell? ⟨W.heap.size, 0, none⟩ = some (.slice a l.length cap) := hx5.cell 0
    have c1 : w5.cell? ⟨W.heap.size, 1, none⟩ = some (.string f) := hx5.cell 1
    clear hb5 hx5
    go_wp2_with fail
    refine (HW1.out _ HB5.out HP.out HL40.out HL.out hc0).mono ?_
    rintro e w6 ⟨rfl, hb6⟩
    have HB6 := hid (HB5.out.trans (hb6.mono HB5.out.size))
    clear hb6
    go_wp2_with fail
    refine (HK.out _).mono ?_
    rintro e wk ⟨rfl, hbk⟩
    have HBK := hid (HB6.out.trans (hbk.mono HB6.out.size))
    clear hbk
    go_wp2_with fail
    go_ret
    exact ⟨rfl, HBK.out⟩
  subst hc0
  have h1c := HCL.out
  rw [if_pos rfl] at h1c
  have ht4 := HT4.out
  rw [if_pos rfl] at ht4
  rw [if_pos rfl, if_pos rfl]
  obtain ⟨g1, g2, g3⟩ := first_facts HC0.out h1c
  have HL1 : Hid (l1.length ≤ 40) := hid (by
    have := congrArg List.length h1c
    rw [List.length_map, List.length_map, Srt.order_length] at this
    have := HL40.out
    omega)
  have HPO : Hid (∀ x ∈ Srt.order Rl.rank l, x.preds.length ≤ 1000000) := hid (fun x hx => HP.out x ((Srt.order_mem Rl.rank x l).1 hx))
  have HP1 : Hid (∀ x ∈ l1, x.preds.length ≤ 1000000) := hid (psl_core h1c HPO.out)
  have HTV : Hid (∀ w', Below w4.heap.size w4 w' → TabV w' w'.heap.size l1 a1 cap1 f) := hid (fun w' hb => TabV.at' ht4 hb)
  have HG1 := hid g1
  have HG2 := hid g2
  have HG3 := hid g3
  have HCC := hid h1c
  clear HT4 HCL h1c ht4 g1 g2 g3 HW1
  have HBW : Hid (∀ w', Below w4.heap.size w4 w' → Below W.heap.size W w') := hid (fun w' hb => HB4.out.trans (hb.mono HB4.out.size))
  have HC2 := hid (fun w' (hb : Below w4.heap.size w4 w') => compile_any 1 l1 a1 cap1 f ns (.slice na ns.length ncap) 0 w' (HTV.out w' hb).rows (HTV.out w' hb).wf HP1.out (HNS.out w' (HBW.out w' hb)) HL.out hf HG1.out)
  have HW2 := hid (fun w' (hb : Below w4.heap.size w4 w') => whole_any 1 l1 a1 cap1 f ns (.slice na ns.length ncap) true w' (HTV.out w' hb).rows (HTV.out w' hb).wf (by have := HL1.out; omega) HP1.out (HNS.out w' (HBW.out w' hb)) HL.out hf HG2.out)
  obtain ⟨at_, hat⟩ : ∃ z, C16.lookR m h p hs l1 = z := ⟨_, rfl⟩
  have HLK := hid (fun w' (hb : Below w4.heap.size w4 w') => C16.look_any 1 l1 a1 cap1 f m h p b hs a0 cap0 at_ w' (HTV.out w' hb) (HRV.out w' (HBW.out w' hb)) (Nat.le_refl _) HH.out (fun r hr => Nat.le_trans (HP1.out r hr) (by decide)) hat)
  have HAT : Hid (C16.lookR m h p hs (Srt.order Rl.rank l) = at_) := hid (by rw [← look_core m h p hs HCC.out]; exact hat)
  clear hat
  go_upto_region 4 with fail
  refine wp_gen ?_
  intro w5 hw5
  have hb5 : Below w4.heap.size w4 w5 := by rw [hw5]; go_grown
  have hk5 : Blk w5 w4.heap.size #[.int .i64 1, .slice a1 l1.length cap1, .string f] 46 := by rw [hw5]; exact Blk.new _ _ _
  clear hw5
  have HB5 := hid hb5
  have HX5 := hid (HX4.out.later hb5)
  have HY5 := hid (HY4.out.later hb5)
  have HZ5 := hid hk5
  have z0 : w5.cell? ⟨w4.heap.size, 0, none⟩ = some (.int .i64 1) := hk5.cell 0
  have z1 : w5.cell? ⟨w4.heap.size, 1, none⟩ = some (.slice a1 l1.length cap1) := hk5.cell 1
  have z2 : w5.cell? ⟨w4.heap.size, 2, none⟩ = some (.string f) := hk5.cell 2
  clear hb5 hk5
  go_wp2_with fail
  refine (HC2.out _ HB5.out).mono ?_
  rintro e w6 ⟨v6, rfl, l2, a2, cap2, rfl, hb6, ht6, hl2⟩
  rw [if_pos rfl] at ht6 hl2
  rw [if_pos rfl, if_pos rfl]
  have HB6 := hid (HB5.out.trans (hb6.mono HB5.out.size))
  have HX6 := hid (HX5.out.later hb6)
  have HY6 := hid (HY5.out.later hb6)
  have HZ6 := hid (HZ5.out.later hb6)
  have HS2 : Hid (sameB l1 l2 = true) := hid (HG3.out l2 hl2)
  have HL2 : Hid (l2.length ≤ 40) := hid (by
    have := congrArg List.length hl2
    rw [List.length_map, List.length_map, Srt.order_length] at this
    have := HL1.out
    omega)
  have HP2 : Hid (∀ x ∈ l2, x.preds.length ≤ 1000000) := hid (psl_core hl2 (fun x hx => HP1.out x ((Srt.order_mem Rl.rank x l1).1 hx)))
  have HTV2 : Hid (∀ w', Below w6.heap.size w6 w' → TabV w' w'.heap.size l2 a2 cap2 f) := hid (fun w' hb => TabV.at' ht6 hb)
  clear ht6 hl2 z0 z1 z2 hb6 HC2
  go_upto_region 7 with fail
  refine wp_gen ?_
  intro w7 hw7
  have hb7 : Below w6.heap.size w6 w7 := by rw [hw7]; go_grown
  have hk7 : Blk w7 w6.heap.size #[.int .i64 1, .slice a2 l2.length cap2, .string f] 46 := by rw [hw7]; exact Blk.new _ _ _
  clear hw7
  have HB7 := hid (HB6.out.trans (hb7.mono HB6.out.size))
  have HD7 := hid hb7
  have HX7 := hid (HX6.out.later hb7)
  have HY7 := hid (HY6.out.later hb7)
  have HZ7 := hid (HZ6.out.later hb7)
  have HU7 := hid hk7
  have z0 : w7.cell? ⟨w4.heap.size, 0, none⟩ = some (.int .i64 1) := HZ7.out.cell 0
  have z1 : w7.cell? ⟨w4.heap.size, 1, none⟩ = some (.slice a1 l1.length cap1) := HZ7.out.cell 1
  have z2 : w7.cell? ⟨w4.heap.size, 2, none⟩ = some (.string f) := HZ7.out.cell 2
  clear hb7 hk7
  go_wp2_with fail
  refine (HW2.out _ HB7.out).mono ?_
  rintro e w8 ⟨rfl, hb8⟩
  have HB8 := hid (HB7.out.trans (hb8.mono HB7.out.size))
  have HD8 := hid (HD7.out.trans (hb8.mono HD7.out.size))
  have HX8 := hid (HX7.out.later hb8)
  have HY8 := hid (HY7.out.later hb8)
  have HZ8 := hid (HZ7.out.later hb8)
  have hu8 := HU7.out.later hb8
  clear hb8 z0 z1 z2
  have z0 : w8.cell? ⟨w4.heap.size, 0, none⟩ = some (.int .i64 1) := HZ8.out.cell 0
  have z1 : w8.cell? ⟨w4.heap.size, 1, none⟩ = some (.slice a1 l1.length cap1) := HZ8.out.cell 1
  have z2 : w8.cell? ⟨w4.heap.size, 2, none⟩ = some (.string f) := HZ8.out.cell 2
  have u0 : w8.cell? ⟨w6.heap.size, 0, none⟩ = some (.int .i64 1) := hu8.cell 0
  have u1 : w8.cell? ⟨w6.heap.size, 1, none⟩ = some (.slice a2 l2.length cap2) := hu8.cell 1
  have u2 : w8.cell? ⟨w6.heap.size, 2, none⟩ = some (.string f) := hu8.cell 2
  have HSM : Hid (Calls Try.prog 36 #[.agg #[.int .i64 1, .slice a1 l1.length cap1, .string f], .agg #[.int .i64 1, .slice a2 l2.length cap2, .string f]] w8 fun e w' => e = .returned (.bool true) ∧ Below w8.heap.size w8 w') := hid (tsame_any 1 1 l1 l2 a1 a2 cap1 cap2 f f true w8 (HTV.out w8 HB8.out) (HTV2.out w8 HD8.out) (fun x hx => Nat.le_trans (HP1.out x hx) (by decide)) (fun x hx => Nat.le_trans (HP2.out x hx) (by decide)) (by have := HL1.out; omega) (by have := HL2.out; omega) (by rw [HS2.out]; simp))
  clear hu8 HTV2 HS2 HP2 HL2 HW2
  generalize l2.length = m2 at *
  go_wp2_with fail
  refine HSM.out.mono ?_
  rintro e w9 ⟨rfl, hb9⟩
  have HB9 := hid (HB8.out.trans (hb9.mono HB8.out.size))
  have hx9 := HX8.out.later hb9
  have hy9 := HY8.out.later hb9
  have hz9 := HZ8.out.later hb9
  clear hb9 z0 z1 z2 u0 u1 u2 HSM
  have z0 : w9.cell? ⟨w4.heap.size, 0, none⟩ = some (.int .i64 1) := hz9.cell 0
  have z1 : w9.cell? ⟨w4.heap.size, 1, none⟩ = some (.slice a1 l1.length cap1) := hz9.cell 1
  have z2 : w9.cell? ⟨w4.heap.size, 2, none⟩ = some (.string f) := hz9.cell 2
  have c0 : w9.cell? ⟨W.heap.size, 0, none⟩ = some (.slice a l.length cap) := hx9.cell 0
  have x0 : w9.cell? ⟨W.heap.size + 1, 0, none⟩ = some (.string m) := hy9.cell 0
  have x1 : w9.cell? ⟨W.heap.size + 1, 1, none⟩ = some (.string h) := hy9.cell 1
  have x2 : w9.cell? ⟨W.heap.size + 1, 2, none⟩ = some (.string p) := hy9.cell 2
  have x3 : w9.cell? ⟨W.heap.size + 1, 3, none⟩ = some (.slice a0 hs.length cap0) := hy9.cell 3
  have x4 : w9.cell? ⟨W.heap.size + 1, 4, none⟩ = some (.string b) := hy9.cell 4
  have s0 := hx9.lt
  have s1 := hy9.lt
  have s2 := hz9.lt
  have HX9 := hid hx9
  have HZ9 := hid hz9
  have X1 : Hid (∀ z : BW w9, Calls Try.prog 76 #[.agg #[.int .i64 1, .slice a1 l1.length cap1, .string f], .agg #[.string m, .string h, .string p, .slice a0 hs.length cap0, .string b]] z.val fun e w' => e = .returned (.int .i64 at_) ∧ Below z.val.heap.size z.val w') := hid (fun z => HLK.out z.val (HB9.out.trans (z.prop.mono HB9.out.size)))
  have X2 : Hid (∀ z : BW w9, Calls Try.prog 55 #[.slice a l.length cap, .agg #[.string m, .string h, .string p, .slice a0 hs.length cap0, .string b]] z.val fun e w' => e = .returned (.int .i64 k) ∧ Below z.val.heap.size z.val w') := hid (fun z => HFI.out z.val ((HBW.out _ HB9.out).trans (z.prop.mono (HBW.out _ HB9.out).size)) HP.out HH.out)
  clear hx9 hy9 hz9
  go_wp2_with fail
  refine wp_region_bw (by kernel_rfl) (by kernel_rfl) ?_
  repeat (go_big_quiet_step ((first | (go_at_call 76; exact bw_call (X1.out _)) | (go_at_call 55; exact bw_call (X2.out _)))))
  refine wpQuiet_nil ?_
  rintro wa ⟨⟨_, hba⟩, rfl⟩
  have HBA := hid (HB9.out.trans (hba.mono HB9.out.size))
  have hxa := HX9.out.later hba
  have hza := HZ9.out.later hba
  clear hba z0 z1 z2 c0 x0 x1 x2 x3 x4 s0 s1 s2 X1 X2 HLK HFI HY8
  rcases HFF.out with ⟨hk, hfn⟩ | ⟨n, hn, hk, hfn⟩
  · have hat2 := HAT.out.symm.trans (look_none' hfn)
    subst hk
    subst hat2
    clear hxa hza hfn
    go_wp2_with fail
    refine (HK.out _).mono ?_
    rintro e wk ⟨rfl, hbk⟩
    have HBK := hid (HBW.out _ (HBA.out.trans (hbk.mono HBA.out.size)))
    clear hbk
    go_wp2_with fail
    go_ret
    exact ⟨rfl, HBK.out⟩
  · obtain ⟨i, hi, hil, hix⟩ := look_some' hfn
    have hat2 := HAT.out.symm.trans hil
    subst hk
    subst hat2
    have hlen : (Srt.order Rl.rank l).length = l1.length := by
      have := congrArg List.length HCC.out
      rw [List.length_map, List.length_map] at this
      exact this.symm
    have hi1 : i < l1.length := by omega
    have hcore : l1[i].core = l[n].core := by
      have e : (l1.map Rl.core)[i]? = ((Srt.order Rl.rank l).map Rl.core)[i]? := by rw [HCC.out]
      rw [List.getElem?_map, List.getElem?_map, List.getElem?_eq_getElem hi1, List.getElem?_eq_getElem hi, hix] at e
      exact Option.some.inj e
    have htv := HTV.out wa HBA.out
    have hro := HROW.out wa (HBW.out _ HBA.out)
    obtain ⟨b1, off1, rfl, hb1l, hc1⟩ : ∃ b1 off1, a1 = some ⟨b1, off1, none⟩ ∧ b1 < wa.heap.size ∧ ∀ j u, l1[i].enc[j]? = some u → wa.cell? ⟨b1, off1 + i * 10 + j, none⟩ = some u := by
      obtain ⟨a', cap', e, _, _, _, h5⟩ := htv.rows
      cases e
      rcases h5 with h5 | ⟨b, off, h1, h2, h3⟩
      · rw [h5] at hi1; simp at hi1
      · exact ⟨b, off, h1, h2, fun j u hu => h3 i hi1 j u hu⟩
    obtain ⟨b2, off2, rfl, hb2l, hc2⟩ : ∃ b2 off2, a = some ⟨b2, off2, none⟩ ∧ b2 < wa.heap.size ∧ ∀ j u, l[n].enc[j]? = some u → wa.cell? ⟨b2, off2 + n * 10 + j, none⟩ = some u := by
      obtain ⟨a', cap', e, _, _, _, h5⟩ := hro
      cases e
      rcases h5 with h5 | ⟨b, off, h1, h2, h3⟩
      · rw [h5] at hn; simp at hn
      · exact ⟨b, off, h1, h2, fun j u hu => h3 n hn j u hu⟩
    obtain ⟨e0, e1, e2, e3, e4, e5, e6, e7, e8, e9⟩ := Rl.cells hc1
    obtain ⟨d0, d1, d2, d3, d4, d5, d6, d7, d8, d9⟩ := Rl.cells hc2
    have hw1 := (htv.wf l1[i] (List.getElem_mem hi1)).at
    have hw2 := (HWF.out wa (HBW.out _ HBA.out) l[n] (List.getElem_mem hn)).at
    have hp1 := HP1.out l1[i] (List.getElem_mem hi1)
    have hp2 := HP.out l[n] (List.getElem_mem hn)
    have z1 : wa.cell? ⟨w4.heap.size, 1, none⟩ = some (.slice (some ⟨b1, off1, none⟩) l1.length cap1) := hza.cell 1
    have c0 : wa.cell? ⟨W.heap.size, 0, none⟩ = some (.slice (some ⟨b2, off2, none⟩) l.length cap) := hxa.cell 0
    have s0 := hxa.lt
    have s1 := hza.lt
    clear hc1 hc2 htv hro hxa hza hix hfn
    generalize l1[i] = x at e0 e1 e2 e3 e4 e5 e6 e7 e8 e9 hcore hw1 hp1
    generalize l[n] = y at d0 d1 d2 d3 d4 d5 d6 d7 d8 d9 hcore hw2 hp2
    have X3 : Hid (∀ z : BW wa, Calls Try.prog 56 #[.agg #[.int .i64 x.rank, .slice x.pa x.preds.length x.pcap, .string x.target, .int .i64 x.ap, .int .i64 x.as_, .int .i64 x.dp, .int .i64 x.dt, .int .i64 x.mp, .string x.mirror, .int .i64 x.sample], .agg #[.int .i64 y.rank, .slice y.pa y.preds.length y.pcap, .string y.target, .int .i64 y.ap, .int .i64 y.as_, .int .i64 y.dp, .int .i64 y.dt, .int .i64 y.mp, .string y.mirror, .int .i64 y.sample]] z.val fun e w' => e = .returned (.bool true) ∧ Below z.val.heap.size z.val w') := hid (fun z => C12.one_any x y true z.val (hw1.below z.prop (fun _ h => h)) (fun b hb => Nat.lt_of_lt_of_le hb z.prop.size) (hw2.below z.prop (fun _ h => h)) (fun b hb => Nat.lt_of_lt_of_le hb z.prop.size) (Nat.le_trans hp1 (by decide)) (Nat.le_trans hp2 (by decide)) ((C12.oneB_core x y).2 hcore))
    have i0 : (0 : Int) ≤ (i : Int) := by omega
    have i1 : (i : Int) < (l1.length : Int) := by omega
    have j0 : (0 : Int) ≤ (n : Int) := by omega
    have j1 : (n : Int) < (l.length : Int) := by omega
    have j2 : ¬ (n : Int) < 0 := by omega
    have j3 : decide ((0 : Int) ≤ (i : Int)) = true := decide_eq_true i0
    have j4 : decide ((i : Int) < (l1.length : Int)) = true := decide_eq_true i1
    clear hcore hw1 hw2 hp1 hp2 hlen hi hil
    go_wp2_with fail
    refine wp_region_bw (by kernel_rfl) (by kernel_rfl) ?_
    repeat (go_big_quiet_step ((first | (go_at_call 56; exact bw_call (X3.out _)) | (go_at_call 70; exact bw_call (HK.out _)))))
    refine wpQuiet_nil ?_
    rintro wb ⟨⟨_, hbb⟩, rfl⟩
    have HBB := hid (HBW.out _ (HBA.out.trans (hbb.mono HBA.out.size)))
    clear hbb
    go_wp2_with fail
    go_ret
    exact ⟨rfl, HBB.out⟩
end C14
end Go.Proofs.Ytmmmaldpalhjeaa
