/- The law StoreBounds walked (30); no condition. -/
import Derived.Test.YtdamnbldimompaaR30
import Derived.Test.YtdamnbldimompaaP30d
namespace Go.Proofs.Ytdamnbldimompaa
open Go.RowKit Go.Peri
open Gen (rows_of_blk flat_set set_mid get_mid map_take_snoc owns_at owns_num owns_le owns_below owns_form)
namespace C30
open Kp (ix ixS)
theorem sp_at {k : Kq} {w : World} (h : k.At (· < w.heap.size) w) (h0 : 0 < k.sp.length) : ∃ b off, k.pa = some ⟨b, off, none⟩ ∧ b < w.heap.size ∧ ∀ i (hi : i < k.sp.length) j u, (k.sp[i]).enc[j]? = some u → w.cell? ⟨b, off + i * 11 + j, none⟩ = some u := by
  obtain ⟨a', c', e, _, _, _, h5⟩ := h
  cases e
  rcases h5 with h5 | ⟨b, off, h1, h2, h3⟩
  · rw [h5] at h0; simp at h0
  · exact ⟨b, off, h1, h2, h3⟩
theorem row5_at {w : World} {a : Option Addr} {c n : Nat} {l : List Kq} (h : RowsOf (· < w.heap.size) Kq.enc 5 w (.slice a n c) l) (hn : 0 < n) : ∃ b off, a = some ⟨b, off, none⟩ ∧ b < w.heap.size ∧ ∀ i (hi : i < l.length) j u, (l[i]).enc[j]? = some u → w.cell? ⟨b, off + i * 5 + j, none⟩ = some u := by
  obtain ⟨a', c', e, _, _, _, h5⟩ := h
  cases e
  rcases h5 with h5 | ⟨b, off, h1, h2, h3⟩
  · rw [h5] at hn; simp at hn
  · exact ⟨b, off, h1, h2, h3⟩
theorem core_at {l : List Kq} {kl : List Kp} (h : l.map Kq.core = kl) {i : Nat} (hi : i < l.length) (hi2 : i < kl.length) : (l[i]).core = kl[i] := by
  subst h
  simp
set_option maxRecDepth 100000 in
set_option maxHeartbeats 32000000 in
theorem bounds_walk (K : Known) (room : Int) (v : Value) (all : List Sp) (W : World) (h : RowsOf (· < W.heap.size) Sp.enc 11 W v all) (hll : all.length * 96 ≤ 140737488351232) :
    Calls Try.prog 4 #[.int .i64 room, v] W fun e w' => e = .returned (.bool true) ∧ Below W.heap.size W w' := by
  have HK := hid K
  obtain ⟨a, cap, rfl, hlc, hcm, _, hcell⟩ := h
  have HC := hid hcell
  clear hcell
  by_cases h300 : 300 < all.length
  · have h300' : (300 : Int) < (all.length : Int) := by omega
    go_enter Try.func4, Try.ntmps4
    go_wp2_with fail
    refine (HK.out _).mono ?_
    rintro e wk ⟨rfl, hbk⟩
    have HBK := hid hbk
    clear hbk
    go_wp2_with fail
    go_ret
    exact ⟨rfl, HBK.out⟩
  go_enter Try.func4, Try.ntmps4
  go_wp2_with fail
  go_loopw [5, 6] (fun lv iv wr => ∃ (k : Nat) (a1 : Option Addr) (n1 c1 : Nat), k ≤ all.length ∧ lv = .slice a1 n1 c1 ∧ iv = .int .i64 k ∧ Hid (Below W.heap.size W wr) ∧ Hid (∃ kl, Kp.Good room kl ∧ AddR wr kl a1 n1 c1 wr)) (fun _ iv _ => all.length - (intOf iv).toNat)
  case atStart => exact ⟨0, none, 0, 0, Nat.zero_le _, rfl, rfl, hid (Below.refl _ _), hid ⟨[], Kp.good_nil room, AddR.nil _⟩⟩
  case round =>
    obtain ⟨k, a1, n1, c1, hk, rfl, rfl, HB, HI⟩ := hrel
    obtain ⟨kl, hgd, hr1⟩ := HI.out
    clear HI
    by_cases hlt : k < all.length
    · obtain ⟨s, hs⟩ : ∃ s, all[k] = s := ⟨_, rfl⟩
      obtain ⟨b, off, rfl, hbl, hc⟩ : ∃ b off, a = some ⟨b, off, none⟩ ∧ b < W.heap.size ∧ ∀ j u, s.enc[j]? = some u → W.cell? ⟨b, off + k * 11 + j, none⟩ = some u := by
        rcases HC.out with h5 | ⟨b, off, h1, h2, h3⟩
        · rw [h5] at hlt; simp at hlt
        · exact ⟨b, off, h1, h2, fun j u hu => h3 k hlt j u (by rw [hs]; exact hu)⟩
      have HCS := hid hc
      have hn1 := hr1.len
      have hil := hgd.inv.len
      have hrl := Kp.room_lo room
      have hrh := Kp.room_hi room
      have HRI := hid (Kp.room_int room)
      have X1 := hid (get_of hr1 s.hi s.lo (Kp.inv_lens hgd.inv).1 (Kp.inv_lens hgd.inv).2)
      have X2 := hid (fun w' (hb : Below wr.heap.size wr w') => add_of (hr1.later hb) room s (Kp.inv_lens hgd.inv).1 (Kp.inv_lens hgd.inv).2)
      obtain ⟨kl2, hkl2⟩ : ∃ z, Kp.add kl room s = z := ⟨_, rfl⟩
      have hgd2 := Kp.good_add hgd s
      rw [hkl2] at hgd2
      have HGD := hid hgd2
      have hil2 := hgd2.inv.len
      have HLN := hid (show kl2.length ≤ 1000000 ∧ ∀ k ∈ kl2, k.sp.length ≤ 1000000 from ⟨by have := (Kp.inv_lens hgd2.inv).1; omega, (Kp.inv_lens hgd2.inv).2⟩)
      have hhas := Kp.has_add kl room s
      rw [hkl2] at hhas
      have HHAS := hid hhas
      have hgm := Kp.get_mem hhas
      have hsome := hgd2.inv.some _ hgm.1
      clear hgm
      obtain ⟨gn, hgn⟩ : ∃ z, Kp.gone kl room s = z := ⟨_, rfl⟩
      obtain ⟨qh, hqh⟩ : ∃ z, Kp.has kl s.hi s.lo = z := ⟨_, rfl⟩
      have HREL : Hid ((qh = true → gn = 0 ∧ kl2.length = kl.length) ∧ (qh = false → kl2.length + gn = kl.length + 1)) := hid (by
        constructor
        · rintro rfl
          refine ⟨?_, by rw [← hkl2]; exact Kp.len_has hqh⟩
          rw [← hgn]
          unfold Kp.gone
          rw [hqh, if_pos rfl]
        · rintro rfl
          rw [← hkl2, ← hgn]
          exact Kp.len_not hqh)
      have hgnb : gn ≤ 1 := by rw [← hgn]; exact Kp.gone_le hgd.inv s
      have HN1 := hid hn1
      clear hs hc hr1 hgd hgd2 hhas hn1
      rw [hkl2, hgn] at X2
      clear hkl2 hgn
      obtain ⟨s0, s1, s2, s3, s4, s5, s6, s7, s8, s9, s10⟩ := Sp.cells (fun j u hu => (HB.out.cell (p := ⟨b, off + k * 11 + j, none⟩) hbl).trans (HCS.out j u hu))
      clear s2 s3 s4 s5 s6 s7 s8 s9 s10
      go_wp2_with fail
      refine X1.out.mono ?_
      rintro e w2 ⟨v2, rfl, x, ev, hcx, hb2, hax⟩
      rw [hqh] at ev
      subst ev
      have HB2 := hid (HB.out.trans (hb2.mono HB.out.size))
      have HBr2 := hid hb2
      clear hcx hax hb2 s0 s1 X1 hqh
      go_upto_region 9 with fail
      refine wp_gen ?_
      intro w3 hw3
      have hb3 : Below w2.heap.size w2 w3 := by rw [hw3]; go_grown
      clear hw3
      have HB3 := hid (HB2.out.trans (hb3.mono HB2.out.size))
      have HBr3 := hid (HBr2.out.trans (hb3.mono HBr2.out.size))
      clear hb3 HB2 HBr2
      obtain ⟨s0, s1, s2, s3, s4, s5, s6, s7, s8, s9, s10⟩ := Sp.cells (fun j u hu => (HB3.out.cell (p := ⟨b, off + k * 11 + j, none⟩) hbl).trans (HCS.out j u hu))
      go_wp2_with fail
      refine (X2.out w3 HBr3.out).mono ?_
      rintro e w4 ⟨v4, rfl, p3, m3, d3, rfl, hq4⟩
      have HQ4 := hid hq4.self
      have HM3 := hid hq4.len
      have HB4 := hid (HB3.out.trans (hq4.below.mono HB3.out.size))
      have X3 := hid (get_of hq4.self s.hi s.lo (by have := HLN.out.1; omega) HLN.out.2)
      clear hq4 s0 s1 s2 s3 s4 s5 s6 s7 s8 s9 s10 X2 HB3 HBr3
      obtain ⟨s0, s1, s2, s3, s4, s5, s6, s7, s8, s9, s10⟩ := Sp.cells (fun j u hu => (HB4.out.cell (p := ⟨b, off + k * 11 + j, none⟩) hbl).trans (HCS.out j u hu))
      clear s2 s3 s4 s5 s6 s7 s8 s9 s10
      go_wp2_with fail
      refine X3.out.mono ?_
      rintro e w5 ⟨v5, rfl, y, ev, hcy, hb5, hay⟩
      rw [HHAS.out] at ev
      subst ev
      have hys : y.sp = (Kp.get kl2 s.hi s.lo).sp := congrArg Kp.sp hcy
      rw [← hys] at hsome
      have HAY := hid hay
      have HQ5 := hid (HQ4.out.later hb5)
      have HB5 := hid (HB4.out.trans (hb5.mono HB4.out.size))
      have HYS := hid hys
      clear hcy hb5 hay hys s0 s1 X3 HQ4 HB4
      go_upto_region 11 with fail
      refine wp_gen ?_
      intro w6 hw6
      have hb6 : Below w5.heap.size w5 w6 := by rw [hw6]; go_grown
      have hk6 : Blk w6 w5.heap.size #[.int .u64 y.hi, .int .u64 y.lo, .slice y.pa y.sp.length y.pcap, .bool y.spilled, .bool y.clash] 34 := by rw [hw6]; exact Blk.new _ _ _
      clear hw6
      have hay6 := At.later' HAY.out hb6
      have HQ6 := hid (HQ5.out.later hb6).self
      have HB6 := hid (HB5.out.trans (hb6.mono HB5.out.size))
      obtain ⟨y0, y1, y2, y3, y4, -⟩ := blk5 hk6
      obtain ⟨by_, offy, hpa, hbyl, hcy⟩ := sp_at hay6 (by omega)
      obtain ⟨t, ht⟩ : ∃ t, y.sp[0]'(by omega) = t := ⟨_, rfl⟩
      obtain ⟨e0, e1, e2, e3, e4, e5, e6, e7, e8, e9, e10⟩ := Sp.cells (y := t) (w := w6) (b := by_) (o := offy) (fun j u hu => by
        have := hcy 0 (by omega) j u (by rw [ht]; exact hu)
        simpa using this)
      have XA := hid (add_of HQ6.out room t (by have := HLN.out.1; omega) HLN.out.2)
      have hag := Kp.again' (r := room) HHAS.out HGD.out.own t (by rw [← HYS.out]; omega) (by rw [← ht]; simp only [HYS.out])
      rw [hag.1, hag.2] at XA
      rw [hpa] at y2
      have hw6l := hk6.lt
      clear hag ht hcy hpa hb6 hk6 hay6 HAY HQ5 HB5
      obtain ⟨N, hN⟩ : ∃ N, y.sp.length = N := ⟨_, rfl⟩
      rw [hN] at y2 hsome
      have hN1 : ¬ (N : Int) < 1 := by omega
      have hN2 : ¬ (64 : Int) < (N : Int) := by omega
      have hN3 : (0 : Int) < (N : Int) := by omega
      have hN4 : ¬ 64 < N := by omega
      have hN5 : ¬ N < 1 := by omega
      have hN6 : 0 < N := by omega
      have hM1 : ¬ max (1 : Int) (min room 32) < (m3 : Int) := by have := HRI.out; have := HM3.out; omega
      have hG1 : ¬ (gn : Int) < 0 := by omega
      clear hN HYS
      have hm3b : m3 ≤ 32 := by have := HM3.out; omega
      have hn1b : n1 ≤ 32 := by have := HN1.out; omega
      cases qh
      · have hrel := HREL.out.2 rfl
        have hw1 : IntKind.i64.wrap ((n1 : Int) + 1) = (n1 : Int) + 1 := by rw [IntKind.wrap_i64]; omega
        have hw2 : IntKind.i64.wrap ((n1 : Int) + 1 - (gn : Int)) = (m3 : Int) := by rw [IntKind.wrap_i64]; have := HN1.out; have := HM3.out; omega
        have hmm : ((m3 : Int) != (m3 : Int)) = false := by simp
        clear hrel HREL HM3 HN1
        go_wp2_with fail
        refine XA.out.mono ?_
        rintro e w7 ⟨v7, rfl, p7, m7, d7, rfl, hq7⟩
        have hsame := same_add hq7 (HQ6.out.later hq7.below) HLN.out.1 HLN.out.2
        have HSAME := hid hsame
        have HB7 := hid (HB6.out.trans (hq7.below.mono HB6.out.size))
        have HQ7 := hid (HQ6.out.later hq7.below)
        clear hq7 hsame XA y0 y1 y2 y3 y4 e0 e1 e2 e3 e4 e5 e6 e7 e8 e9 e10
        go_wp2_with fail
        refine HSAME.out.mono ?_
        rintro e w8 ⟨rfl, hb8⟩
        have HB8 := hid (HB7.out.trans (hb8.mono HB7.out.size))
        have HF : Hid (∃ kl, Kp.Good room kl ∧ AddR w8 kl p3 m3 d3 w8) := hid ⟨_, HGD.out, (HQ7.out.later hb8).self⟩
        clear hb8 HSAME HQ7 HQ6 HB7 HB6
        go_wp2_with fail
        go_roundw
        case rel => exact ⟨k + 1, p3, m3, d3, by omega, rfl, by go_num, HB8, HF⟩
        case measure => simp [intOf]; omega
      · have hrel := HREL.out.1 rfl
        obtain rfl : gn = 0 := hrel.1
        obtain rfl : m3 = n1 := by have := HN1.out; have := HM3.out; omega
        have hmm : ((m3 : Int) != (m3 : Int)) = false := by simp
        clear hrel HREL HM3 HN1
        go_wp2_with fail
        refine XA.out.mono ?_
        rintro e w7 ⟨v7, rfl, p7, m7, d7, rfl, hq7⟩
        have hsame := same_add hq7 (HQ6.out.later hq7.below) HLN.out.1 HLN.out.2
        have HSAME := hid hsame
        have HB7 := hid (HB6.out.trans (hq7.below.mono HB6.out.size))
        have HQ7 := hid (HQ6.out.later hq7.below)
        clear hq7 hsame XA y0 y1 y2 y3 y4 e0 e1 e2 e3 e4 e5 e6 e7 e8 e9 e10
        go_wp2_with fail
        refine HSAME.out.mono ?_
        rintro e w8 ⟨rfl, hb8⟩
        have HB8 := hid (HB7.out.trans (hb8.mono HB7.out.size))
        have HF : Hid (∃ kl, Kp.Good room kl ∧ AddR w8 kl p3 m3 d3 w8) := hid ⟨_, HGD.out, (HQ7.out.later hb8).self⟩
        clear hb8 HSAME HQ7 HQ6 HB7 HB6
        go_wp2_with fail
        go_roundw
        case rel => exact ⟨k + 1, p3, m3, d3, by omega, rfl, by go_num, HB8, HF⟩
        case measure => simp [intOf]; omega
    · obtain rfl : k = all.length := by omega
      have hn1 := hr1.len
      obtain ⟨l1, hl1, hc1, _, hrow, hat⟩ := hr1
      have HROW := hid hrow
      have HAT := hid hat
      have HC1 := hid hc1
      have HGD := hid hgd
      have HLEN : Hid (l1.length = n1 ∧ kl.length = n1) := hid ⟨hl1, hn1.symm⟩
      obtain ⟨we, rfl⟩ : ∃ we, we = wr := ⟨_, rfl⟩
      clear hrow hat hc1 hgd hl1 hn1 HC
      clear hlt
      have hn32 : n1 ≤ 32 := by have := HGD.out.inv.len; have := Kp.room_hi room; have := HLEN.out.2; omega
      go_wp2_with fail
      go_loopw [16] (fun iv wr => ∃ i : Nat, i ≤ n1 ∧ iv = .int .i64 i ∧ Hid (Below we.heap.size we wr)) (fun iv _ => n1 - (intOf iv).toNat)
      case atStart => exact ⟨0, Nat.zero_le _, rfl, hid (Below.refl _ _)⟩
      case round =>
        obtain ⟨i, hi, rfl, HBe⟩ := hrel
        by_cases hlt : i < n1
        · have hi1 : i < l1.length := by rw [HLEN.out.1]; exact hlt
          have hi2 : i < kl.length := by rw [HLEN.out.2]; exact hlt
          obtain ⟨x, hx⟩ : ∃ x, l1[i] = x := ⟨_, rfl⟩
          have hxc : x.core = kl[i] := by rw [← hx]; exact core_at HC1.out hi1 hi2
          obtain ⟨b1, o1, e1, hb1l, hcl⟩ := row5_at HROW.out (by omega)
          subst e1
          have HCL := hid hcl
          clear hcl
          have j1 : (i : Int) < (n1 : Int) := by omega
          have j0 : (0 : Int) ≤ (i : Int) := by omega
          go_wp2_with fail
          go_loopw [17] (fun kv wr => ∃ z : Nat, z ≤ i ∧ kv = .int .i64 z ∧ Hid (Below we.heap.size we wr)) (fun kv _ => i - (intOf kv).toNat)
          case atStart => exact ⟨0, Nat.zero_le _, rfl, HBe⟩
          case round =>
            clear HBe
            obtain ⟨z, hz, rfl, HBe⟩ := hrel
            by_cases hzi : z < i
            · have hz1 : z < l1.length := by omega
              have hz2 : z < kl.length := by omega
              obtain ⟨y, hy⟩ : ∃ y, l1[z] = y := ⟨_, rfl⟩
              have hyc : y.core = kl[z] := by rw [← hy]; exact core_at HC1.out hz1 hz2
              have hap := HGD.out.inv.apart z i hz2 hi2 hzi
              have hne : ¬ (y.hi = x.hi ∧ y.lo = x.lo) := by
                rw [← hyc, ← hxc] at hap
                exact hap
              have hee := eqTr y.hi y.lo x.hi x.lo
              rw [decide_eq_false hne] at hee
              obtain ⟨c0, c1, -⟩ := Kq.cells (fun j u hu => (HBe.out.cell (p := ⟨b1, o1 + i * 5 + j, none⟩) hb1l).trans (HCL.out i hi1 j u (by rw [hx]; exact hu)))
              obtain ⟨d0, d1, -⟩ := Kq.cells (fun j u hu => (HBe.out.cell (p := ⟨b1, o1 + z * 5 + j, none⟩) hb1l).trans (HCL.out z hz1 j u (by rw [hy]; exact hu)))
              have hbr : b1 < wr.heap.size := Nat.lt_of_lt_of_le hb1l HBe.out.size
              have j2 : (z : Int) < (n1 : Int) := by omega
              have j3 : (0 : Int) ≤ (z : Int) := by omega
              clear hap hne hyc hy
              go_wp2_with fail
              refine wp_region_bw (by kernel_rfl) (by kernel_rfl) ?_
              repeat (go_big_quiet_step (fail))
              refine wpQuiet_nil ?_
              rintro wf ⟨⟨_, hbf⟩, rfl⟩
              have HBf := hid (HBe.out.trans (hbf.mono HBe.out.size))
              clear hbf c0 c1 d0 d1 hee
              go_wp2_with fail
              go_roundw
              case rel => exact ⟨z + 1, by omega, by go_num, HBf⟩
              case measure => simp [intOf]; omega
            · have hpw : x.sp.Pairwise (fun a b => a.id ≠ b.id) := by
                have := HGD.out.inv.spans kl[i] (List.getElem_mem hi2)
                rw [← hxc] at this
                exact this
              have hsl : x.sp.length ≤ 64 := by
                have := (HGD.out.inv.some kl[i] (List.getElem_mem hi2)).2
                rw [← hxc] at this
                exact this
              have HPW := hid hpw
              have hxa := HAT.out x (by rw [← hx]; exact List.getElem_mem _)
              have HXA := hid hxa
              have c2 : wr.cell? ⟨b1, o1 + i * 5 + 2, none⟩ = some (.slice x.pa x.sp.length x.pcap) := (HBe.out.cell (p := ⟨b1, o1 + i * 5 + 2, none⟩) hb1l).trans (HCL.out i hi1 2 _ (by rw [hx]; rfl))
              have HC2 : Hid (∀ w', Below we.heap.size we w' → w'.cell? ⟨b1, o1 + i * 5 + 2, none⟩ = some (.slice x.pa x.sp.length x.pcap)) := hid (fun w' hb => (hb.cell (p := ⟨b1, o1 + i * 5 + 2, none⟩) hb1l).trans (HCL.out i hi1 2 _ (by rw [hx]; rfl)))
              clear hpw hxa hxc hx c2
              go_wp2_with fail
              go_loopw [18] (fun kv wr => ∃ z : Nat, z ≤ x.sp.length ∧ kv = .int .i64 z ∧ Hid (Below we.heap.size we wr)) (fun kv _ => x.sp.length - (intOf kv).toNat)
              case atStart => exact ⟨0, Nat.zero_le _, rfl, HBe⟩
              case round =>
                clear HBe
                obtain ⟨z, hz, rfl, HBe⟩ := hrel
                have c2 := HC2.out wr HBe.out
                by_cases hzl : z < x.sp.length
                · obtain ⟨b2, o2, hpa, hb2l, hcs⟩ := sp_at HXA.out (by omega)
                  have HCS := hid hcs
                  obtain ⟨N, hN⟩ : ∃ N, x.sp.length = N := ⟨_, rfl⟩
                  have HNN := hid hN
                  have HC3 : Hid (∀ w', Below we.heap.size we w' → w'.cell? ⟨b1, o1 + i * 5 + 2, none⟩ = some (.slice (some ⟨b2, o2, none⟩) N x.pcap)) := hid (by rw [← hpa, ← hN]; exact HC2.out)
                  have hzN : z < N := by omega
                  have q1 : (z : Int) < (N : Int) := by omega
                  have q0 : (0 : Int) ≤ (z : Int) := by omega
                  rw [hN] at c2
                  clear hcs hpa hN
                  go_wp2_with fail
                  go_loopw [19] (fun jv wr => ∃ y : Nat, y ≤ z ∧ jv = .int .i64 y ∧ Hid (Below we.heap.size we wr)) (fun jv _ => z - (intOf jv).toNat)
                  case atStart => exact ⟨0, Nat.zero_le _, rfl, HBe⟩
                  case round =>
                    clear HBe c2
                    obtain ⟨y, hy, rfl, HBe⟩ := hrel
                    by_cases hyz : y < z
                    · have c3 := HC3.out wr HBe.out
                      have hy2 : y < x.sp.length := by omega
                      have hne : x.sp[y].id ≠ x.sp[z].id := List.pairwise_iff_getElem.1 HPW.out y z hy2 hzl hyz
                      have f2 : wr.cell? ⟨b2, o2 + y * 11 + 2, none⟩ = some (.int .u64 x.sp[y].id) := (HBe.out.cell (p := ⟨b2, o2 + y * 11 + 2, none⟩) hb2l).trans (HCS.out y hy2 2 _ rfl)
                      have g2 : wr.cell? ⟨b2, o2 + z * 11 + 2, none⟩ = some (.int .u64 x.sp[z].id) := (HBe.out.cell (p := ⟨b2, o2 + z * 11 + 2, none⟩) hb2l).trans (HCS.out z hzl 2 _ rfl)
                      generalize x.sp[y].id = iy at f2 hne
                      generalize x.sp[z].id = iz at g2 hne
                      have hq : ((iy : Int) == (iz : Int)) = false := by rw [beq_eq_false_iff_ne]; omega
                      have hbr : b1 < wr.heap.size := Nat.lt_of_lt_of_le hb1l HBe.out.size
                      have hbr2 : b2 < wr.heap.size := Nat.lt_of_lt_of_le hb2l HBe.out.size
                      have r1 : (y : Int) < (N : Int) := by omega
                      have r0 : (0 : Int) ≤ (y : Int) := by omega
                      clear hne
                      go_wp2_with fail
                      refine wp_region_bw (by kernel_rfl) (by kernel_rfl) ?_
                      repeat (go_big_quiet_step (fail))
                      refine wpQuiet_nil ?_
                      rintro wf ⟨⟨_, hbf⟩, rfl⟩
                      have HBf := hid (HBe.out.trans (hbf.mono HBe.out.size))
                      clear hbf f2 g2 hq c3
                      go_wp2_with fail
                      go_roundw
                      case rel => exact ⟨y + 1, by omega, by go_num, HBf⟩
                      case measure => simp [intOf]; omega
                    · go_wp2_with fail
                      go_roundw
                      case rel => exact ⟨z + 1, by omega, by go_num, HBe⟩
                      case measure => simp [intOf]; omega
                · go_wp2_with fail
                  go_roundw
                  case rel => exact ⟨i + 1, by omega, by go_num, HBe⟩
                  case measure => simp [intOf]; omega
        · go_wp2_with fail
          refine (HK.out _).mono ?_
          rintro e wd ⟨rfl, hbd⟩
          have HBd := hid (HB.out.trans ((HBe.out.trans (hbd.mono HBe.out.size)).mono HB.out.size))
          clear hbd
          go_wp2_with fail
          go_ret
          exact ⟨rfl, HBd.out⟩
end C30
end Go.Proofs.Ytdamnbldimompaa
