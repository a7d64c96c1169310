/- Walk of layer 6 (ids): the law on numbers that come back, where a half is zero; no condition. -/
import Derived.Test.YtnmfdkkdnaeikaaQ06b
namespace Go.Proofs.Ytnmfdkkdnaeikaa
open Go.RowKit Go.Peri
namespace C06
open C01

set_option maxRecDepth 100000 in
set_option maxHeartbeats 4000000 in
theorem back_tt (c d : Nat) (v : Value) (zs : List Nat) (x y : Int) (W : World) (h : IsVals W.heap.size W v (natVals zs)) (h60 : zs.length ≤ 60) (h200 : y ≤ 200) (I : BackIn 0 0 c d zs x y true true) : BackQ 0 0 c d v x y W := by
  unfold BackQ
  have HV := hid h
  have HI := hid I
  obtain ⟨p, cap, rfl, hc, hm, _⟩ := nats_parts h
  have q := eq56
  have HO : Hid (ofR (tx3 0 0) = ((0, 0), 11)) := by
    show _ = _
    unfold tx3 tx2
    rw [show (0 : Int).toNat = 0 from rfl, ofR_txt 0 0 I.ha I.hb, if_pos ⟨rfl, rfl⟩]
  have HS : Hid (spanOfR (txt 0) = (0, 11)) := by
    show _ = _
    rw [spanOfR_txt 0 I.hb, if_pos rfl]
  have sz1 : (tx3 0 0).size ≤ 1000000000000000 := by unfold tx3 tx2; rw [ByteArray.size_append, txt_size]; (try rw [txt_size]); omega
  have sz2 : (txt 0).size ≤ 1000000000000000 := by rw [txt_size]; omega
  obtain ⟨r, hr⟩ : ∃ r, (((0 : Nat) : Int) == (c : Int) && ((0 : Nat) : Int) == (d : Int)) = r := ⟨_, rfl⟩
  have e12 := txt_beq 0 0 c d r I.ha I.hb I.hc I.hd hr
  change ((tx3 ((0 : Nat) : Int) 0).toList == (tx3 c d).toList) = r at e12
  rw [show ((0 : Nat) : Int) = 0 from rfl] at hr e12
  obtain ⟨u, hu⟩ : ∃ t, txt 0 = t := ⟨_, rfl⟩
  rw [hu] at HS sz2
  have HU := hid hu
  have ra : 0 ≤ ((0 : Nat) : Int) ∧ ((0 : Nat) : Int) < 18446744073709551616 := by have := I.ha; omega
  have rc : 0 ≤ (c : Int) ∧ (c : Int) < 18446744073709551616 := by have := I.hc; omega
  have rd : 0 ≤ (d : Int) ∧ (d : Int) < 18446744073709551616 := by have := I.hd; omega
  have r0 : 0 ≤ (0 : Int) ∧ (0 : Int) < 18446744073709551616 := by omega
  have HRA := hid ra
  have HRC := hid rc
  have HRD := hid rd
  have HR0 := hid r0
  clear h I hu ra rc rd r0
  have h60' : ¬ (60 : Int) < (zs.length : Int) := by omega
  have h200' : ¬ 200 < y := by omega
  go_enter Try.func16, Try.ntmps16
  go_wp2_with fail
  refine (text3 0 0 _ HR0.out HR0.out).mono ?_
  rintro e w1 ⟨rfl, hb1⟩
  have K0 := (((Blk.new W #[.int .u64 0, .int .u64 0] 56).alloc (.cells #[.int .u64 c, .int .u64 d] 56)).alloc (.cells #[.int .i64 x, .int .i64 y] 90)).later hb1
  have K1 := ((Blk.new (W.alloc (.cells #[.int .u64 0, .int .u64 0] 56)) #[.int .u64 c, .int .u64 d] 56).alloc (.cells #[.int .i64 x, .int .i64 y] 90)).later hb1
  have K2 := (Blk.new ((W.alloc (.cells #[.int .u64 0, .int .u64 0] 56)).alloc (.cells #[.int .u64 c, .int .u64 d] 56)) #[.int .i64 x, .int .i64 y] 90).later hb1
  have HB1 : Hid (Below W.heap.size W w1) := by
    show Below _ _ _
    exact ((((Below.refl _ W).alloc (Nat.le_refl _) _).alloc (by simp) _).alloc (by simp <;> omega) _).trans (hb1.mono (by simp <;> omega))
  have g1 : W.heap.size + 1 + 1 < w1.heap.size := by have := hb1.size; simp at this; omega
  simp only [World.size_alloc] at K1 K2
  have HK := hid (And.intro K0 (And.intro K1 K2))
  clear hb1 K0 K1 K2
  go_wp2_with fail
  refine (of_val (tx3 0 0) _ _ _ _ (by omega) HO.out).mono ?_
  rintro e w2 ⟨rfl, hb2⟩
  have HK2 : Hid (Blk w2 W.heap.size #[.int .u64 0, .int .u64 0] 56 ∧ Blk w2 (W.heap.size + 1) #[.int .u64 c, .int .u64 d] 56 ∧ Blk w2 (W.heap.size + 1 + 1) #[.int .i64 x, .int .i64 y] 90) := ⟨HK.out.1.later hb2, HK.out.2.1.later hb2, HK.out.2.2.later hb2⟩
  have HB2 := hid (HB1.out.trans (hb2.mono HB1.out.size))
  have g2 : W.heap.size + 1 + 1 < w2.heap.size := Nat.lt_of_lt_of_le g1 hb2.size
  have j0 : w2.cell? ⟨W.heap.size, 0, none⟩ = some (.int .u64 0) := HK2.out.1.cell 0
  have j1 : w2.cell? ⟨W.heap.size, 1, none⟩ = some (.int .u64 0) := HK2.out.1.cell 1
  have j2 : w2.cell? ⟨W.heap.size + 1, 0, none⟩ = some (.int .u64 c) := HK2.out.2.1.cell 0
  have j3 : w2.cell? ⟨W.heap.size + 1, 1, none⟩ = some (.int .u64 d) := HK2.out.2.1.cell 1
  have j4 : w2.cell? ⟨W.heap.size + 1 + 1, 0, none⟩ = some (.int .i64 x) := HK2.out.2.2.cell 0
  have j5 : w2.cell? ⟨W.heap.size + 1 + 1, 1, none⟩ = some (.int .i64 y) := HK2.out.2.2.cell 1
  have g3 : W.heap.size < w2.heap.size := by omega
  have g4 : W.heap.size + 1 < w2.heap.size := by omega
  clear hb2 g1
  go_wp2_with fail
  refine wp_region_bw (by kernel_rfl) (by kernel_rfl) ?_
  repeat (go_big_quiet_step ((go_at_call 56; exact bw_call (text3 _ _ _ (by first | exact HRA.out | exact HRC.out | exact HR0.out) (by first | exact HR0.out | exact HRD.out)))))
  refine wpQuiet_nil ?_
  rintro w3 ⟨⟨_, hb3⟩, rfl⟩
  have l1 : w3.cell? ⟨W.heap.size, 1, none⟩ = some (.int .u64 0) := (hb3.cell (p := ⟨W.heap.size, 1, none⟩) (by simp; omega)).trans (by simp [go_sem, j1, g3])
  have l4 : w3.cell? ⟨W.heap.size + 1 + 1, 0, none⟩ = some (.int .i64 x) := (hb3.cell (p := ⟨W.heap.size + 1 + 1, 0, none⟩) (by simp; omega)).trans (by simp [go_sem, j4, g2])
  have l5 : w3.cell? ⟨W.heap.size + 1 + 1, 1, none⟩ = some (.int .i64 y) := (hb3.cell (p := ⟨W.heap.size + 1 + 1, 1, none⟩) (by simp; omega)).trans (by simp [go_sem, j5, g2])
  have HB3 : Hid (Below W.heap.size W w3) := by
    show Below _ _ _
    have h1 := HB2.out.size
    refine Below.trans ?_ (hb3.mono (by simp; omega))
    exact HB2.out.alloc h1 _
  have g5 : W.heap.size + 1 + 1 < w3.heap.size := by have := hb3.size; simp at this; omega
  clear hb3 j0 j1 j2 j3 j4 j5 g2 g3 g4 e12 sz1 hr  q HK HK2 HO
  generalize tx3 0 0 = T1
  generalize tx3 c d = T2
  go_wp2_with fail
  refine (span_val 0 _ _ (by omega) HU.out).mono ?_
  rintro e w4 ⟨rfl, hb4⟩
  have m1 := (hb4.cell (p := ⟨W.heap.size, 1, none⟩) (by show W.heap.size < _; omega)).trans l1
  have m4 := (hb4.cell (p := ⟨W.heap.size + 1 + 1, 0, none⟩) g5).trans l4
  have m5 := (hb4.cell (p := ⟨W.heap.size + 1 + 1, 1, none⟩) g5).trans l5
  have HB4 := hid (HB3.out.trans (hb4.mono HB3.out.size))
  have g6 : W.heap.size + 1 + 1 < w4.heap.size := Nat.lt_of_lt_of_le g5 hb4.size
  clear hb4 l1 l4 l5 g5
  go_wp2_with fail
  refine (spanOf_val u _ _ _ (by omega) HS.out).mono ?_
  rintro e w' ⟨rfl, rfl⟩
  go_wp2_with fail
  obtain ⟨b1, hb1⟩ : ∃ b1, distR zs y = b1 := ⟨_, rfl⟩
  have HD := hid hb1
  clear hb1
  refine (dist_val2 _ zs y b1 _ (HV.out.below HB4.out) HB4.out.size HI.out.hz HI.out.hy HD.out).mono ?_
  rintro e w5 ⟨rfl, hb5⟩
  have n4 := (hb5.cell (p := ⟨W.heap.size + 1 + 1, 0, none⟩) g6).trans m4
  have n5 := (hb5.cell (p := ⟨W.heap.size + 1 + 1, 1, none⟩) g6).trans m5
  have HB5 := hid (HB4.out.trans (hb5.mono HB4.out.size))
  clear hb5 m1 m4 m5 g6
  cases b1
  · go_wp2_with fail
    refine (known_any _).mono ?_
    rintro e w6 ⟨rfl, hb6⟩
    have HB6 := hid (HB5.out.trans (hb6.mono HB5.out.size))
    clear hb6
    go_wp2_with fail
    go_ret
    exact ⟨rfl, HB6.out⟩
  by_cases hxy : y < x
  · go_wp2_with fail
    refine (known_any _).mono ?_
    rintro e w6 ⟨rfl, hb6⟩
    have HB6 := hid (HB5.out.trans (hb6.mono HB5.out.size))
    clear hb6
    go_wp2_with fail
    go_ret
    exact ⟨rfl, HB6.out⟩
  have HX : Hid (distR zs x = true) := distR_mono zs x y (by omega) HD.out
  go_wp2_with fail
  refine (dist_val2 _ zs x true _ (HV.out.below HB5.out) HB5.out.size HI.out.hz HI.out.hx HX.out).mono ?_
  rintro e w6 ⟨rfl, hb6⟩
  have HB6 := hid (HB5.out.trans (hb6.mono HB5.out.size))
  clear hb6
  go_wp2_with fail
  refine (known_any _).mono ?_
  rintro e w7 ⟨rfl, hb7⟩
  have HB7 := hid (HB6.out.trans (hb7.mono HB6.out.size))
  clear hb7
  go_wp2_with fail
  go_ret
  exact ⟨rfl, HB7.out⟩
end C06
end Go.Proofs.Ytnmfdkkdnaeikaa
