/- The law StoreApart walked (30); no condition. -/
import Derived.Test.YtdamnbldimompaaR30
import Derived.Test.YtdamnbldimompaaP30c
namespace Go.Proofs.Ytdamnbldimompaa
open Go.RowKit Go.Peri
open Gen (rows_of_blk flat_set set_mid get_mid map_take_snoc owns_at owns_num owns_le owns_below owns_form)
namespace C30
open Kp (ix ixS)
set_option maxRecDepth 100000 in
set_option maxHeartbeats 16000000 in
theorem apart_walk (K : Known) (v : Value) (all : List Sp) (hi lo : Nat) (W : World) (h : RowsOf (· < W.heap.size) Sp.enc 11 W v all) (hll : all.length * 96 ≤ 140737488351232) :
    Calls Try.prog 5 #[v, .agg #[.int .u64 hi, .int .u64 lo]] W fun e w' => e = .returned (.bool true) ∧ Below W.heap.size W w' := by
  have HK := hid K
  obtain ⟨a, cap, rfl, hlc, hcm, _, hcell⟩ := h
  have HC := hid hcell
  clear hcell
  by_cases h200 : 200 < all.length
  · have h200' : (200 : Int) < (all.length : Int) := by omega
    go_enter Try.func5, Try.ntmps5
    go_wp2_with fail
    refine (HK.out _).mono ?_
    rintro e wk ⟨rfl, hbk⟩
    have HBK : Hid (Below W.heap.size W wk) := hid (((Below.refl _ W).alloc (Nat.le_refl _) _).trans (hbk.mono (by simp)))
    clear hbk
    go_wp2_with fail
    go_ret
    exact ⟨rfl, HBK.out⟩
  go_enter Try.func5, Try.ntmps5
  go_upto_region 1 with fail
  refine wp_gen ?_
  intro w1 hw1
  have hb1 : Below W.heap.size W w1 := by rw [hw1]; go_grown
  have hk1 : Blk w1 W.heap.size #[.int .u64 hi, .int .u64 lo] 25 := by rw [hw1]; exact Blk.new _ _ _
  clear hw1
  have HB1 := hid hb1
  have HT1 := hid hk1
  clear hb1 hk1
  go_wp2_with fail
  go_loopw [5, 6, 7, 8] (fun lv ov gv i wr => ∃ (k gn : Nat) (a1 a2 : Option Addr) (n1 n2 c1 c2 : Nat), k ≤ all.length ∧ gn ≤ k ∧ i = .int .i64 k ∧ gv = .int .i64 gn ∧ lv = .slice a1 n1 c1 ∧ ov = .slice a2 n2 c2 ∧ Hid (Below W.heap.size W wr) ∧ Hid (Blk wr W.heap.size #[.int .u64 hi, .int .u64 lo] 25) ∧ Hid (∃ kl ko, Kp.Apart hi lo kl ko gn k ∧ AddR wr kl a1 n1 c1 wr ∧ AddR wr ko a2 n2 c2 wr)) (fun _ _ _ i _ => all.length - (intOf i).toNat)
  case atStart => exact ⟨0, 0, none, none, 0, 0, 0, 0, Nat.zero_le _, Nat.le_refl _, rfl, rfl, rfl, rfl, HB1, HT1, hid ⟨[], [], Kp.apart_nil hi lo, AddR.nil _, AddR.nil _⟩⟩
  case round =>
    obtain ⟨k, gn, a1, a2, n1, n2, c1, c2, hk, hgk, rfl, rfl, rfl, rfl, HB, HT, HI⟩ := hrel
    clear HB1 HT1
    by_cases hlt : k < all.length
    · obtain ⟨kl, ko, hap, hr1, hr2⟩ := HI.out
      clear HI
      obtain ⟨s, hs⟩ : ∃ s, all[k] = s := ⟨_, rfl⟩
      obtain ⟨b, off, rfl, hbl, hc⟩ : ∃ b off, a = some ⟨b, off, none⟩ ∧ b < W.heap.size ∧ ∀ j u, s.enc[j]? = some u → W.cell? ⟨b, off + k * 11 + j, none⟩ = some u := by
        rcases HC.out with h5 | ⟨b, off, h1, h2, h3⟩
        · rw [h5] at hlt; simp at hlt
        · exact ⟨b, off, h1, h2, fun j u hu => h3 k hlt j u (by rw [hs]; exact hu)⟩
      have HCS := hid hc
      obtain ⟨s0, s1, s2, s3, s4, s5, s6, s7, s8, s9, s10⟩ := Sp.cells (fun j u hu => (HB.out.cell (p := ⟨b, off + k * 11 + j, none⟩) hbl).trans (hc j u hu))
      have X1 := hid (add_of hr1 32 s (Kp.inv_lens hap.inv).1 (Kp.inv_lens hap.inv).2)
      have X2 := hid (fun w' (hb : Below wr.heap.size wr w') => add_of (hr2.later hb) 32 s (Kp.inv_lens hap.invo).1 (Kp.inv_lens hap.invo).2)
      have hgo : Kp.gone kl 32 s ≤ 1 := Kp.gone_le hap.inv s
      have HAP := hid hap
      have HR2 := hid hr2
      clear hap hr1 hr2 hs hc
      go_wp2_with fail
      refine X1.out.mono ?_
      rintro e w2 ⟨v2, rfl, p2, m2, d2, rfl, hq2⟩
      have HQ2 := hid hq2.self
      have HBw := hid hq2.below
      have HB2 := hid (HB.out.trans (hq2.below.mono HB.out.size))
      have HT2 := hid (HT.out.later hq2.below)
      obtain ⟨go, hgo2⟩ : ∃ z, Kp.gone kl 32 s = z := ⟨_, rfl⟩
      rw [hgo2] at hgo
      rw [hgo2]
      have HGO := hid hgo2
      have hw2 : IntKind.i64.wrap ((gn : Int) + (go : Int)) = ((gn + go : Nat) : Int) := by rw [IntKind.wrap_i64]; omega
      clear hq2 hgo2 s0 s1 s2 s3 s4 s5 s6 s7 s8 s9 s10 X1
      obtain ⟨s0, s1, s2, s3, s4, s5, s6, s7, s8, s9, s10⟩ := Sp.cells (fun j u hu => (HB2.out.cell (p := ⟨b, off + k * 11 + j, none⟩) hbl).trans (HCS.out j u hu))
      have t0 : w2.cell? ⟨W.heap.size, 0, none⟩ = some (.int .u64 hi) := HT2.out.cell 0
      have t1 : w2.cell? ⟨W.heap.size, 1, none⟩ = some (.int .u64 lo) := HT2.out.cell 1
      have hWl := HT2.out.lt
      have hbl2 : b < w2.heap.size := by omega
      have hee := eqTr s.hi s.lo hi lo
      by_cases hst : s.hi = hi ∧ s.lo = lo
      · rw [decide_eq_true hst] at hee
        have HAP2 := hid (Kp.apart_hit HAP.out s hst)
        rw [HGO.out] at HAP2
        clear hst
        go_wp2_with fail
        refine wp_region_bw (by kernel_rfl) (by kernel_rfl) ?_
        repeat (go_big_quiet_step (fail))
        refine wpQuiet_nil ?_
        rintro w3 ⟨⟨_, hb3⟩, rfl⟩
        have HB3 := hid (HB2.out.trans (hb3.mono HB2.out.size))
        have HT3 := hid (HT2.out.later hb3)
        have HQ3 := hid (HQ2.out.later hb3)
        have X3 := hid (X2.out w3 (HBw.out.trans (hb3.mono HBw.out.size)))
        clear hb3 s0 s1 s2 s3 s4 s5 s6 s7 s8 s9 s10 t0 t1 hee X2 HT2 HQ2 HB2 hWl hbl2
        obtain ⟨s0, s1, s2, s3, s4, s5, s6, s7, s8, s9, s10⟩ := Sp.cells (fun j u hu => (HB3.out.cell (p := ⟨b, off + k * 11 + j, none⟩) hbl).trans (HCS.out j u hu))
        go_wp2_with fail
        refine X3.out.mono ?_
        rintro e w4 ⟨v4, rfl, p4, m4, d4, rfl, hq4⟩
        have HB4 := hid (HB3.out.trans (hq4.below.mono HB3.out.size))
        have HT4 := hid (HT3.out.later hq4.below)
        have HF : Hid (∃ kl ko, Kp.Apart hi lo kl ko (gn + go) (k + 1) ∧ AddR w4 kl p2 m2 d2 w4 ∧ AddR w4 ko p4 m4 d4 w4) := hid ⟨_, _, HAP2.out, (HQ3.out.later hq4.below).self, hq4.self⟩
        clear hq4 s0 s1 s2 s3 s4 s5 s6 s7 s8 s9 s10 X3
        go_wp2_with fail
        go_roundw
        case rel => exact ⟨k + 1, gn + go, p2, p4, m2, m4, d2, d4, by omega, by omega, by go_num, by go_num, rfl, rfl, HB4, HT4, HF⟩
        case measure => simp [intOf]; omega
      · rw [decide_eq_false hst] at hee
        have HAP2 := hid (Kp.apart_far HAP.out s hst)
        rw [HGO.out] at HAP2
        clear hst
        go_wp2_with fail
        refine wp_region_bw (by kernel_rfl) (by kernel_rfl) ?_
        repeat (go_big_quiet_step (fail))
        refine wpQuiet_nil ?_
        rintro w3 ⟨⟨_, hb3⟩, rfl⟩
        have HB3 := hid (HB2.out.trans (hb3.mono HB2.out.size))
        have HT3 := hid (HT2.out.later hb3)
        have HF : Hid (∃ kl ko, Kp.Apart hi lo kl ko (gn + go) (k + 1) ∧ AddR w3 kl p2 m2 d2 w3 ∧ AddR w3 ko a2 n2 c2 w3) := hid ⟨_, _, HAP2.out, (HQ2.out.later hb3).self, (HR2.out.later (HBw.out.trans (hb3.mono HBw.out.size))).self⟩
        clear hb3 s0 s1 s2 s3 s4 s5 s6 s7 s8 s9 s10 t0 t1 hee X2 HT2 HQ2 HB2 hWl hbl2
        go_wp2_with fail
        go_roundw
        case rel => exact ⟨k + 1, gn + go, p2, a2, m2, n2, d2, c2, by omega, by omega, by go_num, by go_num, rfl, rfl, HB3, HT3, HF⟩
        case measure => simp [intOf]; omega
    · obtain rfl : k = all.length := by omega
      obtain ⟨kl, ko, hap, hr1, hr2⟩ := HI.out
      have X1 := hid (get_of hr1 hi lo (Kp.inv_lens hap.inv).1 (Kp.inv_lens hap.inv).2)
      have X2 := hid (fun w' (hb : Below wr.heap.size wr w') => get_of (hr2.later hb) hi lo (Kp.inv_lens hap.invo).1 (Kp.inv_lens hap.invo).2)
      have HEQ := hid hap.eq
      have HS1 := hid (Kp.get_sp (Kp.inv_lens hap.inv).2 hi lo)
      have HS2 := hid (Kp.get_sp (Kp.inv_lens hap.invo).2 hi lo)
      clear HI hap hr1 hr2 HC
      have t0 : wr.cell? ⟨W.heap.size, 0, none⟩ = some (.int .u64 hi) := HT.out.cell 0
      have t1 : wr.cell? ⟨W.heap.size, 1, none⟩ = some (.int .u64 lo) := HT.out.cell 1
      go_wp2_with fail
      refine X1.out.mono ?_
      rintro e w2 ⟨v2, rfl, x, rfl, hcx, hb2, hax⟩
      have HCX := hid hcx
      have HAX := hid hax
      have HB2 := hid (HB.out.trans (hb2.mono HB.out.size))
      have HBr := hid hb2
      have HT2 := hid (HT.out.later hb2)
      clear hcx hax hb2 t0 t1 X1
      go_upto_region 15 with fail
      refine wp_gen ?_
      intro w3 hw3
      have hb3 : Below w2.heap.size w2 w3 := by rw [hw3]; go_grown
      have hk3 : Blk w3 w2.heap.size #[.int .u64 x.hi, .int .u64 x.lo, .slice x.pa x.sp.length x.pcap, .bool x.spilled, .bool x.clash] 34 := by rw [hw3]; exact Blk.new _ _ _
      clear hw3
      have HAX3 := hid (At.later' HAX.out hb3)
      have HKX3 := hid hk3
      have HB3 := hid (HB2.out.trans (hb3.mono HB2.out.size))
      have HBr3 := hid (HBr.out.trans (hb3.mono HBr.out.size))
      have HT3 := hid (HT2.out.later hb3)
      clear hb3 hk3 HAX HB2 HBr HT2
      have t0 : w3.cell? ⟨W.heap.size, 0, none⟩ = some (.int .u64 hi) := HT3.out.cell 0
      have t1 : w3.cell? ⟨W.heap.size, 1, none⟩ = some (.int .u64 lo) := HT3.out.cell 1
      go_wp2_with fail
      refine (X2.out w3 HBr3.out).mono ?_
      rintro e w4 ⟨v4, rfl, y, rfl, hcy, hb4, hay⟩
      have HCY := hid hcy
      have HAY := hid hay
      have HAX4 := hid (At.later' HAX3.out hb4)
      have HKX4 := hid (HKX3.out.later hb4)
      have HB4 := hid (HB3.out.trans (hb4.mono HB3.out.size))
      clear hcy hay hb4 t0 t1 X2 HBr3 HT3 HB3 HKX3 HAX3
      go_upto_region 16 with fail
      refine wp_gen ?_
      intro w5 hw5
      have hb5 : Below w4.heap.size w4 w5 := by rw [hw5]; go_grown
      have hk5 : Blk w5 w4.heap.size #[.int .u64 y.hi, .int .u64 y.lo, .slice y.pa y.sp.length y.pcap, .bool y.spilled, .bool y.clash] 34 := by rw [hw5]; exact Blk.new _ _ _
      clear hw5
      have HB5 := hid (HB4.out.trans (hb5.mono HB4.out.size))
      obtain ⟨y0, y1, y2, y3, y4, -⟩ := blk5 hk5
      obtain ⟨x0, x1, x2, x3, x4, -⟩ := blk5 (HKX4.out.later hb5)
      have XO : Hid (gn = 0 → Calls Try.prog 16 #[.agg #[.int .u64 x.hi, .int .u64 x.lo, .slice x.pa x.sp.length x.pcap, .bool x.spilled, .bool x.clash], .agg #[.int .u64 y.hi, .int .u64 y.lo, .slice y.pa y.sp.length y.pcap, .bool y.spilled, .bool y.clash]] w5 fun e w'' => e = .returned (.bool true) ∧ Below w5.heap.size w5 w'') := hid (fun h0 => by
        have ex : x.sp = (Kp.get kl hi lo).sp := congrArg Kp.sp HCX.out
        have ey : y.sp = (Kp.get ko hi lo).sp := congrArg Kp.sp HCY.out
        have e1 := HS1.out
        have e2 := HS2.out
        exact one_any x y true w5 (At.later' HAX4.out hb5) (At.later' HAY.out hb5) (by rw [ex]; omega) (by rw [ey]; omega) (decide_eq_true (by rw [HCX.out, HCY.out]; exact (HEQ.out h0).2)))
      have HQ : Hid (gn = 0 → Kp.has kl hi lo = Kp.has ko hi lo) := hid (fun h0 => (HEQ.out h0).1)
      clear hb5 hk5 HAX4 HAY HKX4 HCX HCY HEQ HS1 HS2 HB4
      generalize Kp.has kl hi lo = qa at *
      generalize Kp.has ko hi lo = qb at *
      by_cases hg0 : 0 < gn
      · have hg0' : (0 : Int) < (gn : Int) := by omega
        clear XO HQ
        go_wp2_with fail
        refine (HK.out _).mono ?_
        rintro e wd ⟨rfl, hbd⟩
        have HBd := hid (HB5.out.trans (hbd.mono HB5.out.size))
        clear hbd
        go_wp2_with fail
        go_ret
        exact ⟨rfl, HBd.out⟩
      · have hgz : gn = 0 := by omega
        have XO1 := hid (XO.out hgz)
        have hqq := HQ.out hgz
        clear XO HQ
        subst hgz
        subst hqq
        have hqh : (qa == qa) = true := by simp
        go_wp2_with fail
        refine XO1.out.mono ?_
        rintro e wc ⟨rfl, hbc⟩
        have HBc := hid (HB5.out.trans (hbc.mono HB5.out.size))
        clear hbc x0 x1 x2 x3 x4 y0 y1 y2 y3 y4
        go_wp2_with fail
        refine (HK.out _).mono ?_
        rintro e wd ⟨rfl, hbd⟩
        have HBd := hid (HBc.out.trans (hbd.mono HBc.out.size))
        clear hbd
        go_wp2_with fail
        go_ret
        exact ⟨rfl, HBd.out⟩
end C30
end Go.Proofs.Ytdamnbldimompaa
