/- Walks of layer 26 (flight): batches alike, few and small; no condition. -/
import Derived.Test.YtdamnbldimompaaE26
import Derived.BigQuiet
namespace Go.Peri
namespace Sq
open Go.RowKit
deriving instance DecidableEq for Sq
/-- The batch alone. -/
def benc (k : Sq) : List Value := [.int .i64 k.node, .int .i64 k.seq, .slice k.pa k.sp.length k.pcap]
def bk (k : Sq) : Int × Int × List Sp := (k.node, k.seq, k.sp)
theorem bk_iff (x y : Sq) : bk x = bk y ↔ x.node = y.node ∧ x.seq = y.seq ∧ x.sp = y.sp := by simp [bk]
theorem core_bk (x y : Sq) : x.core = y.core ↔ bk x = bk y ∧ x.tries = y.tries ∧ x.due = y.due := by
  constructor
  · intro h
    have := core_eq h
    exact ⟨(bk_iff x y).2 ⟨this.1, this.2.1, this.2.2.1⟩, this.2.2.2.1, this.2.2.2.2⟩
  · rintro ⟨h1, h2, h3⟩
    have := (bk_iff x y).1 h1
    exact core_of this.1 this.2.1 this.2.2 h2 h3
theorem bcells {y : Sq} {w : World} {b o : Nat} (h : ∀ j u, y.benc[j]? = some u → w.cell? ⟨b, o + j, none⟩ = some u) :
    w.cell? ⟨b, o, none⟩ = some (.int .i64 y.node) ∧ w.cell? ⟨b, o + 1, none⟩ = some (.int .i64 y.seq) ∧ w.cell? ⟨b, o + 2, none⟩ = some (.slice y.pa y.sp.length y.pcap) :=
  ⟨h 0 _ rfl, h 1 _ rfl, h 2 _ rfl⟩
theorem bne_ne {a b : Int} (h : (a != b) = true) : a ≠ b := by simpa using h
theorem bne_eq {a b : Int} (h : (a != b) = false) : a = b := by simpa using h
end Sq
end Go.Peri
namespace Go.Proofs.Ytdamnbldimompaa
open Go.RowKit Go.Peri
namespace C26
open C30 (ssame_any)
open Sq (rest ixQ atQ total bk benc)
set_option maxRecDepth 100000 in
set_option maxHeartbeats 4000000 in
theorem bsame_any (x y : Sq) (r : Bool) (W : World) (hx : x.At (· < W.heap.size) W) (hy : y.At (· < W.heap.size) W) (hxl : x.sp.length ≤ 1000000000000) (hyl : y.sp.length ≤ 1000000000000) (hr : decide (bk x = bk y) = r) :
    Calls Try.prog 36 #[.agg #[.int .i64 x.node, .int .i64 x.seq, .slice x.pa x.sp.length x.pcap], .agg #[.int .i64 y.node, .int .i64 y.seq, .slice y.pa y.sp.length y.pcap]] W fun e w' => e = .returned (.bool r) ∧ Below W.heap.size W w' := by
  obtain ⟨q, hq⟩ : ∃ q, decide (x.sp = y.sp) = q := ⟨_, rfl⟩
  have HS := hid (fun w' (hb : Below W.heap.size W w') => ssame_any (p := (· < W.heap.size)) (q := (· < W.heap.size)) (.slice x.pa x.sp.length x.pcap) (.slice y.pa y.sp.length y.pcap) x.sp y.sp q w' (RowsOf.below hx hb (fun _ h => h)) (fun b h => Nat.lt_of_lt_of_le h hb.size) (RowsOf.below hy hb (fun _ h => h)) (fun b h => Nat.lt_of_lt_of_le h hb.size) hxl hyl hq)
  have HR : Hid (r = ((x.node == y.node) && ((x.seq == y.seq) && q))) := hid (by
    rw [← hr, ← hq, Bool.eq_iff_iff]
    simp only [decide_eq_true_eq, Bool.and_eq_true, beq_iff_eq]
    exact Sq.bk_iff x y)
  clear hx hy hq hr hxl hyl
  go_enter Try.func36, Try.ntmps36
  go_upto_region 1 with fail
  refine wp_genF ?_
  intro w1 hw1
  have hb1 : Below W.heap.size W w1 := by rw [hw1]; go_grown
  have hk1 : Blk w1 W.heap.size #[.int .i64 x.node, .int .i64 x.seq, .slice x.pa x.sp.length x.pcap] 60 := by rw [hw1]; exact (Blk.new _ _ _).alloc _
  have hk2 : Blk w1 (W.heap.size + 1) #[.int .i64 y.node, .int .i64 y.seq, .slice y.pa y.sp.length y.pcap] 60 := by rw [hw1]; exact Blk.new' _ _ _ (by simp)
  clear hw1
  have HB1 := hid hb1
  obtain ⟨x0, x1, x2, -⟩ := blk3' hk1
  obtain ⟨y0, y1, y2, -⟩ := blk3' hk2
  clear hb1 hk1 hk2
  obtain ⟨q0, hq0⟩ : ∃ q, (x.node == y.node) = q := ⟨_, rfl⟩
  have HQ0 := hid hq0
  cases q0
  · go_wp2_with fail
    go_ret
    exact ⟨by rw [HR.out, HQ0.out]; rfl, HB1.out⟩
  · obtain ⟨q1, hq1⟩ : ∃ q, (x.seq == y.seq) = q := ⟨_, rfl⟩
    have HQ1 := hid hq1
    cases q1
    · go_wp2_with fail
      go_ret
      exact ⟨by rw [HR.out, HQ0.out, HQ1.out]; rfl, HB1.out⟩
    · go_wp2_with fail
      refine (HS.out _ HB1.out).mono ?_
      rintro e w2 ⟨rfl, hb2⟩
      have HB2 := hid (HB1.out.trans (hb2.mono HB1.out.size))
      clear hb2 x0 x1 x2 y0 y1 y2
      go_wp2_with fail
      go_ret
      exact ⟨by rw [HR.out, HQ0.out, HQ1.out]; cases q <;> rfl, HB2.out⟩
set_option maxRecDepth 100000 in
set_option maxHeartbeats 8000000 in
theorem same_any (u v : Value) (l m : List Sq) (r : Bool) (W : World) (h : RowsOf (· < W.heap.size) Sq.enc 5 W u l) (h2 : RowsOf (· < W.heap.size) Sq.enc 5 W v m) (ha : ∀ x ∈ l, x.At (· < W.heap.size) W) (ha2 : ∀ x ∈ m, x.At (· < W.heap.size) W)
    (hl : l.length ≤ 1000000000000) (hm : m.length ≤ 1000000000000) (hps : ∀ x ∈ l, x.sp.length ≤ 1000000000000) (hps2 : ∀ x ∈ m, x.sp.length ≤ 1000000000000) (hr : decide (l.map Sq.core = m.map Sq.core) = r) :
    Calls Try.prog 20 #[u, v] W fun e w' => e = .returned (.bool r) ∧ Below W.heap.size W w' := by
  have HU := hid h
  have HV := hid h2
  have HA := hid ha
  have HA2 := hid ha2
  have HPS := hid hps
  have HPS2 := hid hps2
  have HR := hid hr
  obtain ⟨a, cap, rfl, hlc, hcm, _, _⟩ := h
  obtain ⟨a2, cap2, rfl, hlc2, hcm2, _, _⟩ := h2
  clear ha ha2 hps hps2 hr
  by_cases hlen : l.length = m.length
  · have hle2 : ((l.length : Int) == (m.length : Int)) = true := by simp [hlen]
    have hle3 : ((l.length : Int) != (m.length : Int)) = false := by simp [hlen]
    have HN := hid hlen.symm
    clear hlen
    go_enter Try.func20, Try.ntmps20
    go_wp2_with fail
    go_loopw [5] (fun i wr => ∃ k : Nat, k ≤ l.length ∧ i = .int .i64 k ∧ Hid (Below W.heap.size W wr) ∧ Hid ((l.take k).map Sq.core = (m.take k).map Sq.core)) (fun i _ => l.length - (intOf i).toNat)
    case atStart => exact ⟨0, Nat.zero_le _, rfl, hid (Below.refl _ _), hid rfl⟩
    case round =>
      obtain ⟨k, hk, rfl, HB, HE⟩ := hrel
      by_cases hlt : k < l.length
      · have hlt2 : k < m.length := by rw [HN.out]; exact hlt
        obtain ⟨x, hx⟩ : ∃ x, l[k] = x := ⟨_, rfl⟩
        obtain ⟨y, hy⟩ : ∃ y, m[k] = y := ⟨_, rfl⟩
        obtain ⟨b, off, rfl, hbl, hc⟩ : ∃ b off, a = some ⟨b, off, none⟩ ∧ b < W.heap.size ∧ ∀ j u, (Sq.enc x)[j]? = some u → W.cell? ⟨b, off + k * 5 + j, none⟩ = some u := by
          obtain ⟨a', c', e, _, _, _, h5⟩ := HU.out
          cases e
          rcases h5 with h5 | ⟨b, off, h1, h2, h3⟩
          · rw [h5] at hlt; simp at hlt
          · exact ⟨b, off, h1, h2, fun j u hu => h3 k hlt j u (by rw [hx]; exact hu)⟩
        obtain ⟨b2, off2, rfl, hbl2, hc2⟩ : ∃ b off, a2 = some ⟨b, off, none⟩ ∧ b < W.heap.size ∧ ∀ j u, (Sq.enc y)[j]? = some u → W.cell? ⟨b, off + k * 5 + j, none⟩ = some u := by
          obtain ⟨a', c', e, _, _, _, h5⟩ := HV.out
          cases e
          rcases h5 with h5 | ⟨b, off, h1, h2, h3⟩
          · rw [h5] at hlt2; simp at hlt2
          · exact ⟨b, off, h1, h2, fun j u hu => h3 k hlt2 j u (by rw [hy]; exact hu)⟩
        obtain ⟨c0, c1, c2, c3, c4⟩ := Sq.cells (fun j u hu => (HB.out.cell (p := ⟨b, off + k * 5 + j, none⟩) hbl).trans (hc j u hu))
        obtain ⟨d0, d1, d2, d3, d4⟩ := Sq.cells (fun j u hu => (HB.out.cell (p := ⟨b2, off2 + k * 5 + j, none⟩) hbl2).trans (hc2 j u hu))
        obtain ⟨q, hq⟩ : ∃ q, decide (bk x = bk y) = q := ⟨_, rfl⟩
        have hxm : x ∈ l := by rw [← hx]; exact List.getElem_mem hlt
        have hym : y ∈ m := by rw [← hy]; exact List.getElem_mem hlt2
        have X1 : Hid (∀ z : BW wr, Calls Try.prog 36 #[.agg #[.int .i64 x.node, .int .i64 x.seq, .slice x.pa x.sp.length x.pcap], .agg #[.int .i64 y.node, .int .i64 y.seq, .slice y.pa y.sp.length y.pcap]] z.val fun e w' => e = .returned (.bool q) ∧ Below z.val.heap.size z.val w') := hid (fun z =>
          have hb := HB.out.trans (z.prop.mono HB.out.size)
          bsame_any x y q z.val (((HA.out x hxm).below hb (fun _ h => h)).imp (fun b h => Nat.lt_of_lt_of_le h hb.size)) (((HA2.out y hym).below hb (fun _ h => h)).imp (fun b h => Nat.lt_of_lt_of_le h hb.size)) (HPS.out x hxm) (HPS2.out y hym) hq)
        have hbr : b < wr.heap.size := Nat.lt_of_lt_of_le hbl HB.out.size
        have hbr2 : b2 < wr.heap.size := Nat.lt_of_lt_of_le hbl2 HB.out.size
        have i2 : (k : Int) < (m.length : Int) := by omega
        have HNext : Hid (Sq.core x = Sq.core y → (l.take (k + 1)).map Sq.core = (m.take (k + 1)).map Sq.core) := hid (fun e => by
          rw [List.take_succ_eq_append_getElem hlt, List.take_succ_eq_append_getElem hlt2, List.map_append, List.map_append, HE.out, List.map_singleton, List.map_singleton, hx, hy, e])
        have HHit : Hid (Sq.core x ≠ Sq.core y → r = false) := hid (fun hne => by
          rw [← HR.out, decide_eq_false]
          intro e
          have e1 : Sq.core l[k] = Sq.core m[k] := by
            have : (l.map Sq.core)[k]'(by simpa using hlt) = (m.map Sq.core)[k]'(by simpa using hlt2) := by simp only [e]
            simpa using this
          rw [hx, hy] at e1
          exact hne e1)
        have HQ := hid hq
        clear hc hc2 hx hy hq hxm hym
        cases q
        · have hq := of_decide_eq_false HQ.out
          have HQ2 := hid hq
          clear hq HQ
          go_wp2_with fail
          refine wp_region_bw (by kernel_rfl) (by kernel_rfl) ?_
          repeat (go_big_quiet_step ((go_at_call 36; exact bw_call (X1.out _))))
          refine wpQuiet_nil ?_
          rintro w2 ⟨⟨_, hb2⟩, rfl⟩
          have HB2 : Hid (Below W.heap.size W w2) := hid (HB.out.trans (hb2.mono HB.out.size))
          clear hb2
          go_wp2_with fail
          go_ret
          exact ⟨by rw [HHit.out (fun e => HQ2.out ((Sq.core_bk x y).1 e).1)]; rfl, HB2.out⟩
        · have hq := of_decide_eq_true HQ.out
          have HQ2 := hid hq
          clear hq HQ
          obtain ⟨q1, hq1⟩ : ∃ q, (x.tries != y.tries) = q := ⟨_, rfl⟩
          have HQ1 := hid hq1
          cases q1
          · obtain ⟨q2, hq2⟩ : ∃ q, (x.due != y.due) = q := ⟨_, rfl⟩
            have HQ3 := hid hq2
            cases q2
            · skip
              go_wp2_with fail
              refine wp_region_bw (by kernel_rfl) (by kernel_rfl) ?_
              repeat (go_big_quiet_step ((go_at_call 36; exact bw_call (X1.out _))))
              refine wpQuiet_nil ?_
              rintro w2 ⟨⟨_, hb2⟩, rfl⟩
              have HB2 : Hid (Below W.heap.size W w2) := hid (HB.out.trans (hb2.mono HB.out.size))
              clear hb2
              go_wp2_with fail
              go_roundw
              case rel => exact ⟨k + 1, by omega, by go_num, HB2, hid (HNext.out ((Sq.core_bk x y).2 ⟨HQ2.out, Sq.bne_eq HQ1.out, Sq.bne_eq HQ3.out⟩))⟩
              case measure => simp [intOf]; omega
            · skip
              go_wp2_with fail
              refine wp_region_bw (by kernel_rfl) (by kernel_rfl) ?_
              repeat (go_big_quiet_step ((go_at_call 36; exact bw_call (X1.out _))))
              refine wpQuiet_nil ?_
              rintro w2 ⟨⟨_, hb2⟩, rfl⟩
              have HB2 : Hid (Below W.heap.size W w2) := hid (HB.out.trans (hb2.mono HB.out.size))
              clear hb2
              go_wp2_with fail
              go_ret
              exact ⟨by rw [HHit.out (fun e => Sq.bne_ne HQ3.out ((Sq.core_bk x y).1 e).2.2)]; rfl, HB2.out⟩
          · skip
            go_wp2_with fail
            refine wp_region_bw (by kernel_rfl) (by kernel_rfl) ?_
            repeat (go_big_quiet_step ((go_at_call 36; exact bw_call (X1.out _))))
            refine wpQuiet_nil ?_
            rintro w2 ⟨⟨_, hb2⟩, rfl⟩
            have HB2 : Hid (Below W.heap.size W w2) := hid (HB.out.trans (hb2.mono HB.out.size))
            clear hb2
            go_wp2_with fail
            go_ret
            exact ⟨by rw [HHit.out (fun e => Sq.bne_ne HQ1.out ((Sq.core_bk x y).1 e).2.1)]; rfl, HB2.out⟩
      · obtain rfl : k = l.length := by omega
        go_wp2_with fail
        go_ret
        have e := HE.out
        rw [List.take_length, ← HN.out, List.take_length] at e
        exact ⟨by rw [← HR.out, decide_eq_true e]; rfl, HB.out⟩
  · have HL : Hid (l.map Sq.core ≠ m.map Sq.core) := hid (fun e => hlen (by simpa using congrArg List.length e))
    have hle2 : ((l.length : Int) == (m.length : Int)) = false := by rw [beq_eq_false_iff_ne]; omega
    have hle3 : ((l.length : Int) != (m.length : Int)) = true := by simp; omega
    clear hlen
    go_enter Try.func20, Try.ntmps20
    go_wp2_with fail
    go_ret
    exact ⟨by rw [← HR.out, decide_eq_false HL.out]; rfl, Below.refl _ _⟩
set_option maxRecDepth 100000 in
set_option maxHeartbeats 8000000 in
theorem batches_any (u v : Value) (l m : List Sq) (r : Bool) (W : World) (h : RowsOf (· < W.heap.size) benc 3 W u l) (h2 : RowsOf (· < W.heap.size) benc 3 W v m) (ha : ∀ x ∈ l, x.At (· < W.heap.size) W) (ha2 : ∀ x ∈ m, x.At (· < W.heap.size) W)
    (hl : l.length ≤ 1000000000000) (hm : m.length ≤ 1000000000000) (hps : ∀ x ∈ l, x.sp.length ≤ 1000000000000) (hps2 : ∀ x ∈ m, x.sp.length ≤ 1000000000000) (hr : decide (l.map bk = m.map bk) = r) :
    Calls Try.prog 32 #[u, v] W fun e w' => e = .returned (.bool r) ∧ Below W.heap.size W w' := by
  have HU := hid h
  have HV := hid h2
  have HA := hid ha
  have HA2 := hid ha2
  have HPS := hid hps
  have HPS2 := hid hps2
  have HR := hid hr
  obtain ⟨a, cap, rfl, hlc, hcm, _, _⟩ := h
  obtain ⟨a2, cap2, rfl, hlc2, hcm2, _, _⟩ := h2
  clear ha ha2 hps hps2 hr
  by_cases hlen : l.length = m.length
  · have hle2 : ((l.length : Int) == (m.length : Int)) = true := by simp [hlen]
    have hle3 : ((l.length : Int) != (m.length : Int)) = false := by simp [hlen]
    have HN := hid hlen.symm
    clear hlen
    go_enter Try.func32, Try.ntmps32
    go_wp2_with fail
    go_loopw [5] (fun i wr => ∃ k : Nat, k ≤ l.length ∧ i = .int .i64 k ∧ Hid (Below W.heap.size W wr) ∧ Hid ((l.take k).map bk = (m.take k).map bk)) (fun i _ => l.length - (intOf i).toNat)
    case atStart => exact ⟨0, Nat.zero_le _, rfl, hid (Below.refl _ _), hid rfl⟩
    case round =>
      obtain ⟨k, hk, rfl, HB, HE⟩ := hrel
      by_cases hlt : k < l.length
      · have hlt2 : k < m.length := by rw [HN.out]; exact hlt
        obtain ⟨x, hx⟩ : ∃ x, l[k] = x := ⟨_, rfl⟩
        obtain ⟨y, hy⟩ : ∃ y, m[k] = y := ⟨_, rfl⟩
        obtain ⟨b, off, rfl, hbl, hc⟩ : ∃ b off, a = some ⟨b, off, none⟩ ∧ b < W.heap.size ∧ ∀ j u, (benc x)[j]? = some u → W.cell? ⟨b, off + k * 3 + j, none⟩ = some u := by
          obtain ⟨a', c', e, _, _, _, h5⟩ := HU.out
          cases e
          rcases h5 with h5 | ⟨b, off, h1, h2, h3⟩
          · rw [h5] at hlt; simp at hlt
          · exact ⟨b, off, h1, h2, fun j u hu => h3 k hlt j u (by rw [hx]; exact hu)⟩
        obtain ⟨b2, off2, rfl, hbl2, hc2⟩ : ∃ b off, a2 = some ⟨b, off, none⟩ ∧ b < W.heap.size ∧ ∀ j u, (benc y)[j]? = some u → W.cell? ⟨b, off + k * 3 + j, none⟩ = some u := by
          obtain ⟨a', c', e, _, _, _, h5⟩ := HV.out
          cases e
          rcases h5 with h5 | ⟨b, off, h1, h2, h3⟩
          · rw [h5] at hlt2; simp at hlt2
          · exact ⟨b, off, h1, h2, fun j u hu => h3 k hlt2 j u (by rw [hy]; exact hu)⟩
        obtain ⟨c0, c1, c2⟩ := Sq.bcells (fun j u hu => (HB.out.cell (p := ⟨b, off + k * 3 + j, none⟩) hbl).trans (hc j u hu))
        obtain ⟨d0, d1, d2⟩ := Sq.bcells (fun j u hu => (HB.out.cell (p := ⟨b2, off2 + k * 3 + j, none⟩) hbl2).trans (hc2 j u hu))
        obtain ⟨q, hq⟩ : ∃ q, decide (bk x = bk y) = q := ⟨_, rfl⟩
        have hxm : x ∈ l := by rw [← hx]; exact List.getElem_mem hlt
        have hym : y ∈ m := by rw [← hy]; exact List.getElem_mem hlt2
        have X1 : Hid (∀ z : BW wr, Calls Try.prog 36 #[.agg #[.int .i64 x.node, .int .i64 x.seq, .slice x.pa x.sp.length x.pcap], .agg #[.int .i64 y.node, .int .i64 y.seq, .slice y.pa y.sp.length y.pcap]] z.val fun e w' => e = .returned (.bool q) ∧ Below z.val.heap.size z.val w') := hid (fun z =>
          have hb := HB.out.trans (z.prop.mono HB.out.size)
          bsame_any x y q z.val (((HA.out x hxm).below hb (fun _ h => h)).imp (fun b h => Nat.lt_of_lt_of_le h hb.size)) (((HA2.out y hym).below hb (fun _ h => h)).imp (fun b h => Nat.lt_of_lt_of_le h hb.size)) (HPS.out x hxm) (HPS2.out y hym) hq)
        have hbr : b < wr.heap.size := Nat.lt_of_lt_of_le hbl HB.out.size
        have hbr2 : b2 < wr.heap.size := Nat.lt_of_lt_of_le hbl2 HB.out.size
        have i2 : (k : Int) < (m.length : Int) := by omega
        have HNext : Hid (bk x = bk y → (l.take (k + 1)).map bk = (m.take (k + 1)).map bk) := hid (fun e => by
          rw [List.take_succ_eq_append_getElem hlt, List.take_succ_eq_append_getElem hlt2, List.map_append, List.map_append, HE.out, List.map_singleton, List.map_singleton, hx, hy, e])
        have HHit : Hid (bk x ≠ bk y → r = false) := hid (fun hne => by
          rw [← HR.out, decide_eq_false]
          intro e
          have e1 : bk l[k] = bk m[k] := by
            have : (l.map bk)[k]'(by simpa using hlt) = (m.map bk)[k]'(by simpa using hlt2) := by simp only [e]
            simpa using this
          rw [hx, hy] at e1
          exact hne e1)
        have HQ := hid hq
        clear hc hc2 hx hy hq hxm hym
        cases q
        · have hq := of_decide_eq_false HQ.out
          have HQ2 := hid hq
          clear hq HQ
          go_wp2_with fail
          refine wp_region_bw (by kernel_rfl) (by kernel_rfl) ?_
          repeat (go_big_quiet_step ((go_at_call 36; exact bw_call (X1.out _))))
          refine wpQuiet_nil ?_
          rintro w2 ⟨⟨_, hb2⟩, rfl⟩
          have HB2 : Hid (Below W.heap.size W w2) := hid (HB.out.trans (hb2.mono HB.out.size))
          clear hb2
          go_wp2_with fail
          go_ret
          exact ⟨by rw [HHit.out (HQ2.out)]; rfl, HB2.out⟩
        · have hq := of_decide_eq_true HQ.out
          have HQ2 := hid hq
          clear hq HQ
          go_wp2_with fail
          refine wp_region_bw (by kernel_rfl) (by kernel_rfl) ?_
          repeat (go_big_quiet_step ((go_at_call 36; exact bw_call (X1.out _))))
          refine wpQuiet_nil ?_
          rintro w2 ⟨⟨_, hb2⟩, rfl⟩
          have HB2 : Hid (Below W.heap.size W w2) := hid (HB.out.trans (hb2.mono HB.out.size))
          clear hb2
          go_wp2_with fail
          go_roundw
          case rel => exact ⟨k + 1, by omega, by go_num, HB2, hid (HNext.out (HQ2.out))⟩
          case measure => simp [intOf]; omega
      · obtain rfl : k = l.length := by omega
        go_wp2_with fail
        go_ret
        have e := HE.out
        rw [List.take_length, ← HN.out, List.take_length] at e
        exact ⟨by rw [← HR.out, decide_eq_true e]; rfl, HB.out⟩
  · have HL : Hid (l.map bk ≠ m.map bk) := hid (fun e => hlen (by simpa using congrArg List.length e))
    have hle2 : ((l.length : Int) == (m.length : Int)) = false := by rw [beq_eq_false_iff_ne]; omega
    have hle3 : ((l.length : Int) != (m.length : Int)) = true := by simp; omega
    clear hlen
    go_enter Try.func32, Try.ntmps32
    go_wp2_with fail
    go_ret
    exact ⟨by rw [← HR.out, decide_eq_false HL.out]; rfl, Below.refl _ _⟩
set_option maxRecDepth 100000 in
theorem few_any (v : Value) (l : List Sq) (r : Bool) (W : World) (h : RowsOf (· < W.heap.size) Sq.enc 5 W v l) (hl : l.length ≤ 10000000000000) (hr : Sq.few l = r) :
    Calls Try.prog 17 #[v] W fun e w' => e = .returned (.bool r) ∧ W = w' := by
  obtain ⟨a, cap, rfl, hlc, hcm, _, hcell⟩ := h
  have HC := hid hcell
  have HR := hid hr
  clear hcell hr
  by_cases h60 : 30 < l.length
  · have HF : Hid (r = false) := hid (by rw [← HR.out]; unfold Sq.few; rw [decide_eq_false (by omega), Bool.false_and])
    go_enter Try.func17, Try.ntmps17
    go_wp2_with fail
    go_ret
    exact ⟨by rw [HF.out]; rfl, rfl⟩
  go_enter Try.func17, Try.ntmps17
  go_wp2_with fail
  go_loop [3] (fun i => ∃ k : Nat, k ≤ l.length ∧ i = .int .i64 k ∧ Hid (∀ x ∈ l.take k, x.sp.length ≤ 60)) (fun i => l.length - (intOf i).toNat)
  case atStart => exact ⟨0, Nat.zero_le _, rfl, hid (fun s hs => by simp at hs)⟩
  case round =>
    obtain ⟨k, hk, rfl, hno⟩ := hrel
    by_cases hlt : k < l.length
    · obtain ⟨x, hx⟩ : ∃ x, l[k] = x := ⟨_, rfl⟩
      obtain ⟨b, off, rfl, c2⟩ : ∃ b off, a = some ⟨b, off, none⟩ ∧ W.cell? ⟨b, off + k * 5 + 2, none⟩ = some (.slice x.pa x.sp.length x.pcap) := by
        rcases HC.out with h0 | ⟨b, off, h1, _, h3⟩
        · rw [h0] at hlt; simp at hlt
        · exact ⟨b, off, h1, h3 k hlt 2 _ (by rw [hx]; rfl)⟩
      have HL : Hid (60 < x.sp.length → r = false) := hid (fun h => by
        rw [← HR.out]
        unfold Sq.few
        rw [Bool.and_eq_false_iff]
        right
        rw [List.all_eq_false]
        exact ⟨x, by rw [← hx]; exact List.getElem_mem hlt, by simp; omega⟩)
      have HN : Hid (x.sp.length ≤ 60 → ∀ s ∈ l.take (k + 1), s.sp.length ≤ 60) := hid (fun h s hs => by
        rw [List.take_succ_eq_append_getElem hlt, hx] at hs
        rcases List.mem_append.1 hs with hs | hs
        · exact hno.out s hs
        · simp at hs; rw [hs]; exact h)
      clear hx
      by_cases hx4 : 60 < x.sp.length
      · have HF := hid (HL.out hx4)
        clear HL HN
        go_wp2_with fail
        go_ret
        exact ⟨by rw [HF.out]; rfl, rfl⟩
      · have HF := hid (HN.out (by omega))
        clear HL HN
        go_wp2_with fail
        go_round
        case rel => exact ⟨k + 1, by omega, by go_num, HF⟩
        case measure => simp [intOf]; omega
    · obtain rfl : k = l.length := by omega
      have HF : Hid (r = true) := hid (by
        rw [← HR.out]
        unfold Sq.few
        rw [decide_eq_true (by omega), Bool.true_and, List.all_eq_true]
        intro s hs
        exact decide_eq_true (hno.out s (by rw [List.take_length]; exact hs)))
      go_wp2_with fail
      go_ret
      exact ⟨by rw [HF.out]; rfl, rfl⟩
theorem same_of {W1 W2 : World} {cl cm : List Sq} {a a2 : Option Addr} {n n2 cap cap2 : Nat} {w : World} (h : FR W1 cl a n cap w) (h2 : FR W2 cm a2 n2 cap2 w) (hl : cl.length ≤ 1000000) (hm : cm.length ≤ 1000000) (hs : ∀ k ∈ cl, k.sp.length ≤ 1000000) (hs2 : ∀ k ∈ cm, k.sp.length ≤ 1000000) (r : Bool) (hr : decide (cl = cm) = r) :
    Calls Try.prog 20 #[.slice a n cap, .slice a2 n2 cap2] w fun e w' => e = .returned (.bool r) ∧ Below w.heap.size w w' := by
  obtain ⟨l1, h1, e1, _, h4, h5⟩ := h
  obtain ⟨m1, g1, e2, _, g4, g5⟩ := h2
  have hl1 : l1.length = cl.length := by rw [← e1, List.length_map]
  have hm1 : m1.length = cm.length := by rw [← e2, List.length_map]
  exact same_any _ _ l1 m1 r w h4 g4 h5 g5 (by omega) (by omega) (fun x hx => by have := Sq.sp_of_core e1 hs x hx; omega) (fun x hx => by have := Sq.sp_of_core e2 hs2 x hx; omega) (by rw [e1, e2]; exact hr)
end C26
end Go.Proofs.Ytdamnbldimompaa
