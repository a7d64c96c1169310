/- Walk of layer 6 (ids): the law on numbers that come back; no condition. -/
import Derived.Test.YtnmfdkkdnaeikaaM06
import Derived.Test.YtnmfdkkdnaeikaaO06
namespace Go.Proofs.Ytnmfdkkdnaeikaa
open Go.RowKit Go.Peri
namespace C06
open C01

structure BackIn (a b c d : Nat) (zs : List Nat) (x y : Int) (z0 z1 : Bool) : Prop where
  ha : a < 18446744073709551616
  hb : b < 18446744073709551616
  hc : c < 18446744073709551616
  hd : d < 18446744073709551616
  hx : -9223372036854775808 ≤ x
  hy : -9223372036854775808 ≤ y
  hz : ∀ z ∈ zs, z < 18446744073709551616
  z0 : z0 = decide (a = 0 ∧ b = 0)
  z1 : z1 = decide (b = 0)
def BackQ (a b c d : Nat) (v : Value) (x y : Int) (W : World) : Prop := Calls Try.prog 16 #[.agg #[.int .u64 a, .int .u64 b], .agg #[.int .u64 c, .int .u64 d], v, .agg #[.int .i64 x, .int .i64 y]] W fun e w' => e = .returned (.bool true) ∧ Below W.heap.size W w'
theorem txt_beq (a b c d : Nat) (r : Bool) (ha : a < 18446744073709551616) (hb : b < 18446744073709551616) (hc : c < 18446744073709551616) (hd : d < 18446744073709551616) (hr : ((a : Int) == (c : Int) && (b : Int) == (d : Int)) = r) : ((txt a ++ txt b).toList == (txt c ++ txt d).toList) = r := by
  rw [← hr]
  by_cases h : a = c ∧ b = d
  · obtain ⟨rfl, rfl⟩ := h
    rw [beq_self_eq_true, beq_self_eq_true, beq_self_eq_true]; rfl
  · have h1 : ((txt a ++ txt b).toList == (txt c ++ txt d).toList) = false := by
      rw [beq_eq_false_iff_ne]
      intro e
      exact h ((pair_inj ha hb hc hd).1 (Go.WideShapes.bytes_inj (by rw [← ByteArray.toList_eq, ← ByteArray.toList_eq, e])))
    rw [h1]
    by_cases h2 : a = c
    · have h3 : ¬ b = d := fun e => h ⟨h2, e⟩
      have h4 : ((b : Int) == (d : Int)) = false := by rw [beq_eq_false_iff_ne]; omega
      rw [h4, Bool.and_false]
    · have h4 : ((a : Int) == (c : Int)) = false := by rw [beq_eq_false_iff_ne]; omega
      rw [h4, Bool.false_and]
def tx2 (a b : Nat) : ByteArray := txt a ++ txt b
theorem text2 (hi lo : Nat) (W : World) (h1 : hi < 18446744073709551616) (h2 : lo < 18446744073709551616) :
    Calls Try.prog 56 #[.agg #[.int .u64 hi, .int .u64 lo]] W fun e w' => e = .returned (.string (tx2 hi lo)) ∧ Below W.heap.size W w' := text_any hi lo W h1 h2
theorem dist_val2 {B : Nat} (v : Value) (zs : List Nat) (n : Int) (b : Bool) (W : World) (h : IsVals B W v (natVals zs)) (hB : B ≤ W.heap.size) (hz : ∀ z ∈ zs, z < 18446744073709551616) (hn : -9223372036854775808 ≤ n) (hr : distR zs n = b) :
    Calls Try.prog 64 #[v, .int .i64 n] W fun e w' => e = .returned (.bool b) ∧ Below W.heap.size W w' := dist_val v zs n b W (h.mono hB) hz hn hr


set_option maxRecDepth 100000 in
set_option maxHeartbeats 4000000 in
theorem back_ff (a b c d : Nat) (v : Value) (zs : List Nat) (x y : Int) (W : World) (h : IsVals W.heap.size W v (natVals zs)) (h60 : zs.length ≤ 60) (h200 : y ≤ 200) (I : BackIn a b c d zs x y false false) : BackQ a b c d v x y W := by
  unfold BackQ
  have HV := hid h
  have HI := hid I
  obtain ⟨p, cap, rfl, hc, hm, _⟩ := nats_parts h
  have q := eq56
  have nz0 : ((a : Int) == 0 && (b : Int) == 0) = false := by rw [zero_eq]; exact I.z0.symm
  have nzb : ¬ b = 0 := of_decide_eq_false I.z1.symm
  have nz1 : ((b : Int) == 0) = false := by rw [beq_eq_false_iff_ne]; omega
  have nz2 : ((b : Int) != 0) = true := by unfold bne; rw [nz1]; rfl
  have HS : Hid (spanOfR (txt b) = (b, 0)) := by
    show _ = _
    rw [spanOfR_txt b I.hb, if_neg nzb]
  have HO : Hid (ofR (txt a ++ txt b) = ((a, b), 0)) := by
    show _ = _
    rw [ofR_txt a b I.ha I.hb, if_neg (of_decide_eq_false I.z0.symm)]
  have sz1 : (txt a ++ txt b).size ≤ 1000000000000000 := by rw [ByteArray.size_append, txt_size, txt_size]; omega
  have sz2 : (txt b).size ≤ 1000000000000000 := by rw [txt_size]; omega
  obtain ⟨r, hr⟩ : ∃ r, ((a : Int) == (c : Int) && (b : Int) == (d : Int)) = r := ⟨_, rfl⟩
  have e12 := txt_beq a b c d r I.ha I.hb I.hc I.hd hr
  change ((tx2 a b).toList == (tx2 c d).toList) = r at e12
  change (tx2 a b).size ≤ 1000000000000000 at sz1
  have HO : Hid (ofR (tx2 a b) = _) := HO
  obtain ⟨u, hu⟩ : ∃ t, txt b = t := ⟨_, rfl⟩
  rw [hu] at HS sz2
  have HU := hid hu
  have HNB := hid nzb
  have hra : ((a : Int) == (a : Int) && (b : Int) == (b : Int)) = true := by simp
  clear h I hu nzb
  have h60' : ¬ (60 : Int) < (zs.length : Int) := by omega
  have h200' : ¬ 200 < y := by omega
  go_enter Try.func16, Try.ntmps16
  go_wp2_with fail
  refine (text2 a b _ HI.out.ha HI.out.hb).mono ?_
  rintro e w1 ⟨rfl, hb1⟩
  have K0 := (((Blk.new W #[.int .u64 a, .int .u64 b] 56).alloc (.cells #[.int .u64 c, .int .u64 d] 56)).alloc (.cells #[.int .i64 x, .int .i64 y] 90)).later hb1
  have K1 := ((Blk.new (W.alloc (.cells #[.int .u64 a, .int .u64 b] 56)) #[.int .u64 c, .int .u64 d] 56).alloc (.cells #[.int .i64 x, .int .i64 y] 90)).later hb1
  have K2 := (Blk.new ((W.alloc (.cells #[.int .u64 a, .int .u64 b] 56)).alloc (.cells #[.int .u64 c, .int .u64 d] 56)) #[.int .i64 x, .int .i64 y] 90).later hb1
  have HB1 : Hid (Below W.heap.size W w1) := by
    show Below _ _ _
    exact ((((Below.refl _ W).alloc (Nat.le_refl _) _).alloc (by simp) _).alloc (by simp <;> omega) _).trans (hb1.mono (by simp <;> omega))
  have g1 : W.heap.size + 1 + 1 < w1.heap.size := by have := hb1.size; simp at this; omega
  simp only [World.size_alloc] at K1 K2
  have HK := hid (And.intro K0 (And.intro K1 K2))
  clear hb1 K0 K1 K2
  go_wp2_with fail
  refine (of_val (tx2 a b) _ _ _ _ (by omega) HO.out).mono ?_
  rintro e w2 ⟨rfl, hb2⟩
  have HK2 : Hid (Blk w2 W.heap.size #[.int .u64 a, .int .u64 b] 56 ∧ Blk w2 (W.heap.size + 1) #[.int .u64 c, .int .u64 d] 56 ∧ Blk w2 (W.heap.size + 1 + 1) #[.int .i64 x, .int .i64 y] 90) := ⟨HK.out.1.later hb2, HK.out.2.1.later hb2, HK.out.2.2.later hb2⟩
  have HB2 := hid (HB1.out.trans (hb2.mono HB1.out.size))
  have g2 : W.heap.size + 1 + 1 < w2.heap.size := Nat.lt_of_lt_of_le g1 hb2.size
  have j0 : w2.cell? ⟨W.heap.size, 0, none⟩ = some (.int .u64 a) := HK2.out.1.cell 0
  have j1 : w2.cell? ⟨W.heap.size, 1, none⟩ = some (.int .u64 b) := HK2.out.1.cell 1
  have j2 : w2.cell? ⟨W.heap.size + 1, 0, none⟩ = some (.int .u64 c) := HK2.out.2.1.cell 0
  have j3 : w2.cell? ⟨W.heap.size + 1, 1, none⟩ = some (.int .u64 d) := HK2.out.2.1.cell 1
  have j4 : w2.cell? ⟨W.heap.size + 1 + 1, 0, none⟩ = some (.int .i64 x) := HK2.out.2.2.cell 0
  have j5 : w2.cell? ⟨W.heap.size + 1 + 1, 1, none⟩ = some (.int .i64 y) := HK2.out.2.2.cell 1
  have g3 : W.heap.size < w2.heap.size := by omega
  have g4 : W.heap.size + 1 < w2.heap.size := by omega
  clear hb2 g1
  go_wp2_with fail
  refine wp_region_bw (by kernel_rfl) (by kernel_rfl) ?_
  repeat (go_big_quiet_step ((go_at_call 56; exact bw_call (text2 _ _ _ (by first | exact HI.out.ha | exact HI.out.hc) (by first | exact HI.out.hb | exact HI.out.hd)))))
  refine wpQuiet_nil ?_
  rintro w3 ⟨⟨_, hb3⟩, rfl⟩
  have l1 : w3.cell? ⟨W.heap.size, 1, none⟩ = some (.int .u64 b) := (hb3.cell (p := ⟨W.heap.size, 1, none⟩) (by simp; omega)).trans (by simp [go_sem, j1, g3])
  have l4 : w3.cell? ⟨W.heap.size + 1 + 1, 0, none⟩ = some (.int .i64 x) := (hb3.cell (p := ⟨W.heap.size + 1 + 1, 0, none⟩) (by simp; omega)).trans (by simp [go_sem, j4, g2])
  have l5 : w3.cell? ⟨W.heap.size + 1 + 1, 1, none⟩ = some (.int .i64 y) := (hb3.cell (p := ⟨W.heap.size + 1 + 1, 1, none⟩) (by simp; omega)).trans (by simp [go_sem, j5, g2])
  have HB3 : Hid (Below W.heap.size W w3) := by
    show Below _ _ _
    have h1 := HB2.out.size
    refine Below.trans ?_ (hb3.mono (by simp; omega))
    exact HB2.out.alloc h1 _
  have g5 : W.heap.size + 1 + 1 < w3.heap.size := by have := hb3.size; simp at this; omega
  clear hb3 j0 j1 j2 j3 j4 j5 g2 g3 g4 e12 sz1 hr hra nz0 q HK HK2 HO
  generalize tx2 a b = T1
  generalize tx2 c d = T2
  go_wp2_with fail
  refine (span_val b _ _ HI.out.hb HU.out).mono ?_
  rintro e w4 ⟨rfl, hb4⟩
  have m1 := (hb4.cell (p := ⟨W.heap.size, 1, none⟩) (by show W.heap.size < _; omega)).trans l1
  have m4 := (hb4.cell (p := ⟨W.heap.size + 1 + 1, 0, none⟩) g5).trans l4
  have m5 := (hb4.cell (p := ⟨W.heap.size + 1 + 1, 1, none⟩) g5).trans l5
  have HB4 := hid (HB3.out.trans (hb4.mono HB3.out.size))
  have g6 : W.heap.size + 1 + 1 < w4.heap.size := Nat.lt_of_lt_of_le g5 hb4.size
  clear hb4 l1 l4 l5 g5
  go_wp2_with fail
  refine (spanOf_val u _ _ _ (by omega) HS.out).mono ?_
  rintro e w' ⟨rfl, rfl⟩
  go_wp2_with fail
  obtain ⟨b1, hb1⟩ : ∃ b1, distR zs y = b1 := ⟨_, rfl⟩
  have HD := hid hb1
  clear hb1
  refine (dist_val2 _ zs y b1 _ (HV.out.below HB4.out) HB4.out.size HI.out.hz HI.out.hy HD.out).mono ?_
  rintro e w5 ⟨rfl, hb5⟩
  have n4 := (hb5.cell (p := ⟨W.heap.size + 1 + 1, 0, none⟩) g6).trans m4
  have n5 := (hb5.cell (p := ⟨W.heap.size + 1 + 1, 1, none⟩) g6).trans m5
  have HB5 := hid (HB4.out.trans (hb5.mono HB4.out.size))
  clear hb5 m1 m4 m5 g6
  cases b1
  · go_wp2_with fail
    refine (known_any _).mono ?_
    rintro e w6 ⟨rfl, hb6⟩
    have HB6 := hid (HB5.out.trans (hb6.mono HB5.out.size))
    clear hb6
    go_wp2_with fail
    go_ret
    exact ⟨rfl, HB6.out⟩
  by_cases hxy : y < x
  · go_wp2_with fail
    refine (known_any _).mono ?_
    rintro e w6 ⟨rfl, hb6⟩
    have HB6 := hid (HB5.out.trans (hb6.mono HB5.out.size))
    clear hb6
    go_wp2_with fail
    go_ret
    exact ⟨rfl, HB6.out⟩
  have HX : Hid (distR zs x = true) := distR_mono zs x y (by omega) HD.out
  go_wp2_with fail
  refine (dist_val2 _ zs x true _ (HV.out.below HB5.out) HB5.out.size HI.out.hz HI.out.hx HX.out).mono ?_
  rintro e w6 ⟨rfl, hb6⟩
  have HB6 := hid (HB5.out.trans (hb6.mono HB5.out.size))
  clear hb6
  go_wp2_with fail
  refine (known_any _).mono ?_
  rintro e w7 ⟨rfl, hb7⟩
  have HB7 := hid (HB6.out.trans (hb7.mono HB6.out.size))
  clear hb7
  go_wp2_with fail
  go_ret
  exact ⟨rfl, HB7.out⟩

end C06
end Go.Proofs.Ytnmfdkkdnaeikaa
