/- Walks of layer 30 (store): traces alike, few and small; no condition. -/
import Derived.Test.YtdamnbldimompaaN30
namespace Go.Proofs.Ytdamnbldimompaa
open Go.RowKit Go.Peri
open Gen (rows_of_blk flat_set set_mid get_mid map_take_snoc owns_at owns_num owns_le owns_below owns_form)
namespace C30
open Kp (ix ixS)
theorem core_iff (x y : Kq) : x.core = y.core ↔ (x.hi = y.hi ∧ x.lo = y.lo) ∧ x.sp = y.sp ∧ x.spilled = y.spilled ∧ x.clash = y.clash := by
  obtain ⟨⟩ := x
  obtain ⟨⟩ := y
  simp only [Kq.core, Kp.mk.injEq]
  constructor
  · rintro ⟨h1, h2, h3, h4, h5⟩; exact ⟨⟨h1, h2⟩, h3, h4, h5⟩
  · rintro ⟨⟨h1, h2⟩, h3, h4, h5⟩; exact ⟨h1, h2, h3, h4, h5⟩
set_option maxRecDepth 100000 in
set_option maxHeartbeats 4000000 in
theorem one_any (x y : Kq) (r : Bool) (W : World) (hx : x.At (· < W.heap.size) W) (hy : y.At (· < W.heap.size) W) (hxl : x.sp.length ≤ 1000000000000) (hyl : y.sp.length ≤ 1000000000000) (hr : decide (x.core = y.core) = r) :
    Calls Try.prog 16 #[.agg #[.int .u64 x.hi, .int .u64 x.lo, .slice x.pa x.sp.length x.pcap, .bool x.spilled, .bool x.clash], .agg #[.int .u64 y.hi, .int .u64 y.lo, .slice y.pa y.sp.length y.pcap, .bool y.spilled, .bool y.clash]] W fun e w' => e = .returned (.bool r) ∧ Below W.heap.size W w' := by
  obtain ⟨q, hq⟩ : ∃ q, decide (x.sp = y.sp) = q := ⟨_, rfl⟩
  have HS := hid (fun w' (hb : Below W.heap.size W w') => ssame_any (p := (· < W.heap.size)) (q := (· < W.heap.size)) (.slice x.pa x.sp.length x.pcap) (.slice y.pa y.sp.length y.pcap) x.sp y.sp q w' (RowsOf.below hx hb (fun _ h => h)) (fun b h => Nat.lt_of_lt_of_le h hb.size) (RowsOf.below hy hb (fun _ h => h)) (fun b h => Nat.lt_of_lt_of_le h hb.size) hxl hyl hq)
  have HR : Hid (r = (decide (x.hi = y.hi ∧ x.lo = y.lo) && (q && ((x.spilled == y.spilled) && (x.clash == y.clash))))) := hid (by
    rw [← hr, ← hq, Bool.eq_iff_iff]
    simp only [decide_eq_true_eq, Bool.and_eq_true, beq_iff_eq]
    exact core_iff x y)
  clear hx hy hq hr hxl hyl
  go_enter Try.func16, Try.ntmps16
  go_upto_region 1 with fail
  refine wp_gen ?_
  intro w1 hw1
  have hb1 : Below W.heap.size W w1 := by rw [hw1]; go_grown
  have hk1 : Blk w1 W.heap.size #[.int .u64 x.hi, .int .u64 x.lo, .slice x.pa x.sp.length x.pcap, .bool x.spilled, .bool x.clash] 34 := by rw [hw1]; exact (Blk.new _ _ _).alloc _
  have hk2 : Blk w1 (W.heap.size + 1) #[.int .u64 y.hi, .int .u64 y.lo, .slice y.pa y.sp.length y.pcap, .bool y.spilled, .bool y.clash] 34 := by rw [hw1]; exact Blk.new' _ _ _ (by simp)
  clear hw1
  have HB1 := hid hb1
  have HK1 := hid hk1
  have HK2 := hid hk2
  obtain ⟨x0, x1, x2, x3, x4, -⟩ := blk5 hk1
  obtain ⟨y0, y1, y2, y3, y4, -⟩ := blk5 hk2
  clear hb1 hk1 hk2
  have hee := eqTr x.hi x.lo y.hi y.lo
  by_cases ht : x.hi = y.hi ∧ x.lo = y.lo
  · rw [decide_eq_true ht] at hee HR
    clear ht
    go_wp2_with fail
    refine (HS.out _ HB1.out).mono ?_
    rintro e w2 ⟨rfl, hb2⟩
    have HB2 := hid (HB1.out.trans (hb2.mono HB1.out.size))
    obtain ⟨u0, u1, u2, u3, u4, -⟩ := blk5 (HK1.out.later hb2)
    obtain ⟨v0, v1, v2, v3, v4, -⟩ := blk5 (HK2.out.later hb2)
    clear hb2 x0 x1 x2 x3 x4 y0 y1 y2 y3 y4 hee
    cases q
    · go_wp2_with fail
      go_ret
      exact ⟨by rw [HR.out]; rfl, HB2.out⟩
    · obtain ⟨q1, hq1⟩ : ∃ q, (x.spilled == y.spilled) = q := ⟨_, rfl⟩
      have HQ1 := hid hq1
      cases q1
      · go_wp2_with fail
        go_ret
        exact ⟨by rw [HR.out, HQ1.out]; rfl, HB2.out⟩
      · go_wp2_with fail
        go_ret
        exact ⟨by rw [HR.out, HQ1.out]; rfl, HB2.out⟩
  · rw [decide_eq_false ht] at hee HR
    clear ht
    go_wp2_with fail
    go_ret
    exact ⟨by rw [HR.out]; rfl, HB1.out⟩
theorem map_core_snoc {l m : List Kq} {k : Nat} (h1 : k < l.length) (h2 : k < m.length) (h : (l.take k).map Kq.core = (m.take k).map Kq.core) (hx : l[k].core = m[k].core) : (l.take (k + 1)).map Kq.core = (m.take (k + 1)).map Kq.core := by
  rw [List.take_succ_eq_append_getElem h1, List.take_succ_eq_append_getElem h2, List.map_append, List.map_append, h, List.map_singleton, List.map_singleton, hx]
set_option maxRecDepth 100000 in
set_option maxHeartbeats 4000000 in
theorem same_any (u v : Value) (l m : List Kq) (r : Bool) (W : World) (h : RowsOf (· < W.heap.size) Kq.enc 5 W u l) (h2 : RowsOf (· < W.heap.size) Kq.enc 5 W v m) (ha : ∀ x ∈ l, x.At (· < W.heap.size) W) (ha2 : ∀ x ∈ m, x.At (· < W.heap.size) W)
    (hl : l.length ≤ 1000000000000) (hm : m.length ≤ 1000000000000) (hps : ∀ x ∈ l, x.sp.length ≤ 1000000000000) (hps2 : ∀ x ∈ m, x.sp.length ≤ 1000000000000) (hr : decide (l.map Kq.core = m.map Kq.core) = r) :
    Calls Try.prog 15 #[u, v] W fun e w' => e = .returned (.bool r) ∧ Below W.heap.size W w' := by
  have HU := hid h
  have HV := hid h2
  have HA := hid ha
  have HA2 := hid ha2
  have HPS := hid hps
  have HPS2 := hid hps2
  have HR := hid hr
  obtain ⟨a, cap, rfl, hlc, hcm, _, _⟩ := h
  obtain ⟨a2, cap2, rfl, hlc2, hcm2, _, _⟩ := h2
  clear ha ha2 hps hps2 hr
  by_cases hlen : l.length = m.length
  · have HLEN := hid hlen
    have hle2 : ((l.length : Int) == (m.length : Int)) = true := by simp [hlen]
    have hle3 : ((l.length : Int) != (m.length : Int)) = false := by simp [hlen]
    have HN := hid hlen.symm
    clear hlen
    go_enter Try.func15, Try.ntmps15
    go_wp2_with fail
    go_loopw [5] (fun i wr => ∃ k : Nat, k ≤ l.length ∧ i = .int .i64 k ∧ Hid (Below W.heap.size W wr) ∧ Hid ((l.take k).map Kq.core = (m.take k).map Kq.core)) (fun i _ => l.length - (intOf i).toNat)
    case atStart => exact ⟨0, Nat.zero_le _, rfl, hid (Below.refl _ _), hid rfl⟩
    case round =>
      obtain ⟨k, hk, rfl, HB, HE⟩ := hrel
      by_cases hlt : k < l.length
      · have hlt2 : k < m.length := by rw [HN.out]; exact hlt
        obtain ⟨x, hx⟩ : ∃ x, l[k] = x := ⟨_, rfl⟩
        obtain ⟨y, hy⟩ : ∃ y, m[k] = y := ⟨_, rfl⟩
        obtain ⟨b, off, rfl, hbl, hc⟩ : ∃ b off, a = some ⟨b, off, none⟩ ∧ b < W.heap.size ∧ ∀ j u, x.enc[j]? = some u → W.cell? ⟨b, off + k * 5 + j, none⟩ = some u := by
          obtain ⟨a', c', e, _, _, _, h5⟩ := HU.out
          cases e
          rcases h5 with h5 | ⟨b, off, h1, h2, h3⟩
          · rw [h5] at hlt; simp at hlt
          · exact ⟨b, off, h1, h2, fun j u hu => h3 k hlt j u (by rw [hx]; exact hu)⟩
        obtain ⟨b2, off2, rfl, hbl2, hc2⟩ : ∃ b off, a2 = some ⟨b, off, none⟩ ∧ b < W.heap.size ∧ ∀ j u, y.enc[j]? = some u → W.cell? ⟨b, off + k * 5 + j, none⟩ = some u := by
          obtain ⟨a', c', e, _, _, _, h5⟩ := HV.out
          cases e
          rcases h5 with h5 | ⟨b, off, h1, h2, h3⟩
          · rw [h5] at hlt2; simp at hlt2
          · exact ⟨b, off, h1, h2, fun j u hu => h3 k hlt2 j u (by rw [hy]; exact hu)⟩
        obtain ⟨c0, c1, c2, c3, c4⟩ := Kq.cells (fun j u hu => (HB.out.cell (p := ⟨b, off + k * 5 + j, none⟩) hbl).trans (hc j u hu))
        obtain ⟨d0, d1, d2, d3, d4⟩ := Kq.cells (fun j u hu => (HB.out.cell (p := ⟨b2, off2 + k * 5 + j, none⟩) hbl2).trans (hc2 j u hu))
        obtain ⟨q, hq⟩ : ∃ q, decide (x.core = y.core) = q := ⟨_, rfl⟩
        have hxm : x ∈ l := by rw [← hx]; exact List.getElem_mem hlt
        have hym : y ∈ m := by rw [← hy]; exact List.getElem_mem hlt2
        have X1 : Hid (∀ z : BW wr, Calls Try.prog 16 #[.agg #[.int .u64 x.hi, .int .u64 x.lo, .slice x.pa x.sp.length x.pcap, .bool x.spilled, .bool x.clash], .agg #[.int .u64 y.hi, .int .u64 y.lo, .slice y.pa y.sp.length y.pcap, .bool y.spilled, .bool y.clash]] z.val fun e w' => e = .returned (.bool q) ∧ Below z.val.heap.size z.val w') := hid (fun z =>
          have hb := HB.out.trans (z.prop.mono HB.out.size)
          one_any x y q z.val (((HA.out x hxm).below hb (fun _ h => h)).imp (fun b h => Nat.lt_of_lt_of_le h hb.size)) (((HA2.out y hym).below hb (fun _ h => h)).imp (fun b h => Nat.lt_of_lt_of_le h hb.size)) (HPS.out x hxm) (HPS2.out y hym) hq)
        have hbr : b < wr.heap.size := Nat.lt_of_lt_of_le hbl HB.out.size
        have hbr2 : b2 < wr.heap.size := Nat.lt_of_lt_of_le hbl2 HB.out.size
        have i2 : (k : Int) < (m.length : Int) := by omega
        have HX := hid hx
        have HY := hid hy
        have HQ := hid hq
        clear hc hc2 hx hy hq hxm hym
        cases q
        · go_wp2_with fail
          refine wp_region_bw (by kernel_rfl) (by kernel_rfl) ?_
          repeat (go_big_quiet_step ((go_at_call 16; exact bw_call (X1.out _))))
          refine wpQuiet_nil ?_
          rintro w2 ⟨⟨_, hb2⟩, rfl⟩
          have HB2 : Hid (Below W.heap.size W w2) := hid (HB.out.trans (hb2.mono HB.out.size))
          clear hb2
          go_wp2_with fail
          go_ret
          have hne : l.map Kq.core ≠ m.map Kq.core := fun e => by
            have e1 : l[k].core = m[k].core := by
              have : (l.map Kq.core)[k]'(by simpa using hlt) = (m.map Kq.core)[k]'(by simpa using hlt2) := by simp only [e]
              simpa using this
            rw [HX.out, HY.out] at e1
            exact of_decide_eq_false HQ.out e1
          exact ⟨by rw [← HR.out, decide_eq_false hne]; rfl, HB2.out⟩
        · go_wp2_with fail
          refine wp_region_bw (by kernel_rfl) (by kernel_rfl) ?_
          repeat (go_big_quiet_step ((go_at_call 16; exact bw_call (X1.out _))))
          refine wpQuiet_nil ?_
          rintro w2 ⟨⟨_, hb2⟩, rfl⟩
          have HB2 : Hid (Below W.heap.size W w2) := hid (HB.out.trans (hb2.mono HB.out.size))
          clear hb2
          have HE2 := hid (map_core_snoc hlt hlt2 HE.out (by rw [HX.out, HY.out]; exact of_decide_eq_true HQ.out))
          go_wp2_with fail
          go_roundw
          case rel => exact ⟨k + 1, by omega, by go_num, HB2, HE2⟩
          case measure => simp [intOf]; omega
      · obtain rfl : k = l.length := by omega
        go_wp2_with fail
        go_ret
        have e := HE.out
        rw [List.take_length, ← HN.out, List.take_length] at e
        exact ⟨by rw [← HR.out, decide_eq_true e]; rfl, HB.out⟩
  · have HL : Hid (l.map Kq.core ≠ m.map Kq.core) := hid (fun e => hlen (by simpa using congrArg List.length e))
    have hle2 : ((l.length : Int) == (m.length : Int)) = false := by rw [beq_eq_false_iff_ne]; omega
    have hle3 : ((l.length : Int) != (m.length : Int)) = true := by simp; omega
    clear hlen
    go_enter Try.func15, Try.ntmps15
    go_wp2_with fail
    go_ret
    exact ⟨by rw [← HR.out, decide_eq_false HL.out]; rfl, Below.refl _ _⟩
set_option maxRecDepth 100000 in
theorem few_any (v : Value) (l : List Kq) (r : Bool) (W : World) (h : RowsOf (· < W.heap.size) Kq.enc 5 W v l) (hl : l.length ≤ 10000000000000) (hr : Kq.few l = r) :
    Calls Try.prog 7 #[v] W fun e w' => e = .returned (.bool r) ∧ W = w' := by
  obtain ⟨a, cap, rfl, hlc, hcm, _, hcell⟩ := h
  have HC := hid hcell
  have HR := hid hr
  clear hcell hr
  by_cases h60 : 60 < l.length
  · have HF : Hid (r = false) := hid (by rw [← HR.out]; unfold Kq.few; rw [decide_eq_false (by omega), Bool.false_and])
    go_enter Try.func7, Try.ntmps7
    go_wp2_with fail
    go_ret
    exact ⟨by rw [HF.out]; rfl, rfl⟩
  go_enter Try.func7, Try.ntmps7
  go_wp2_with fail
  go_loop [3] (fun i => ∃ k : Nat, k ≤ l.length ∧ i = .int .i64 k ∧ Hid (∀ x ∈ l.take k, x.sp.length ≤ 100)) (fun i => l.length - (intOf i).toNat)
  case atStart => exact ⟨0, Nat.zero_le _, rfl, hid (fun s hs => by simp at hs)⟩
  case round =>
    obtain ⟨k, hk, rfl, hno⟩ := hrel
    by_cases hlt : k < l.length
    · obtain ⟨x, hx⟩ : ∃ x, l[k] = x := ⟨_, rfl⟩
      obtain ⟨b, off, rfl, c2⟩ : ∃ b off, a = some ⟨b, off, none⟩ ∧ W.cell? ⟨b, off + k * 5 + 2, none⟩ = some (.slice x.pa x.sp.length x.pcap) := by
        rcases HC.out with h0 | ⟨b, off, h1, _, h3⟩
        · rw [h0] at hlt; simp at hlt
        · exact ⟨b, off, h1, h3 k hlt 2 _ (by rw [hx]; rfl)⟩
      have HL : Hid (100 < x.sp.length → r = false) := hid (fun h => by
        rw [← HR.out]
        unfold Kq.few
        rw [Bool.and_eq_false_iff]
        right
        rw [List.all_eq_false]
        exact ⟨x, by rw [← hx]; exact List.getElem_mem hlt, by simp; omega⟩)
      have HN : Hid (x.sp.length ≤ 100 → ∀ s ∈ l.take (k + 1), s.sp.length ≤ 100) := hid (fun h s hs => by
        rw [List.take_succ_eq_append_getElem hlt, hx] at hs
        rcases List.mem_append.1 hs with hs | hs
        · exact hno.out s hs
        · simp at hs; rw [hs]; exact h)
      clear hx
      by_cases hx4 : 100 < x.sp.length
      · have HF := hid (HL.out hx4)
        clear HL HN
        go_wp2_with fail
        go_ret
        exact ⟨by rw [HF.out]; rfl, rfl⟩
      · have HF := hid (HN.out (by omega))
        clear HL HN
        go_wp2_with fail
        go_round
        case rel => exact ⟨k + 1, by omega, by go_num, HF⟩
        case measure => simp [intOf]; omega
    · obtain rfl : k = l.length := by omega
      have HF : Hid (r = true) := hid (by
        rw [← HR.out]
        unfold Kq.few
        rw [decide_eq_true (by omega), Bool.true_and, List.all_eq_true]
        intro s hs
        exact decide_eq_true (hno.out s (by rw [List.take_length]; exact hs)))
      go_wp2_with fail
      go_ret
      exact ⟨by rw [HF.out]; rfl, rfl⟩
end C30
end Go.Proofs.Ytdamnbldimompaa
