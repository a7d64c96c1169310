/- Walks of layer 7 (parent): the law of coming back; no condition. -/
import Derived.Test.YtpamnknfccmgcaaN07
namespace Go.Proofs.Ytpamnknfccmgcaa
open Go.RowKit Go.Peri
namespace C07
open C01 C06
set_option maxRecDepth 100000 in
set_option maxHeartbeats 4000000 in
theorem back_walk (hi lo sp : Nat) (f : Int) (s : ByteArray) (W : World) (h1 : hi < 18446744073709551616) (h2 : lo < 18446744073709551616) (h3 : sp < 18446744073709551616) (hs : s.size ≤ 1000000000000000) :
    Calls Try.prog 8 #[.agg #[.int .u64 hi, .int .u64 lo, .int .u64 sp, .int .i64 f], .string s] W fun e w' => e = .returned (.bool true) ∧ Below W.heap.size W w' := by
  have HK := hid known_any
  have HP0 := hid (Blk.new W #[.int .u64 hi, .int .u64 lo, .int .u64 sp, .int .i64 f] 44)
  have HB0 : Hid (Below W.heap.size W (W.alloc (.cells #[.int .u64 hi, .int .u64 lo, .int .u64 sp, .int .i64 f] 44))) := by show Below _ _ _; go_grown
  by_cases h5 : 500 < s.size
  · go_enter Try.func8, Try.ntmps8
    go_wp2_with fail
    refine (HK.out _).mono ?_
    rintro e w1 ⟨rfl, hb1⟩
    have HB1 := hid (HB0.out.trans (hb1.mono (by simp)))
    clear hb1
    go_wp2_with fail
    go_ret
    exact ⟨rfl, HB1.out⟩
  obtain ⟨t, er, hr⟩ : ∃ a e, writeR hi lo sp f = (a, e) := ⟨_, _, rfl⟩
  have HW1 := hid (fun w => write_any hi lo sp f t er w h1 h2 h3 hr)
  obtain ⟨hi2, lo2, sp2, f2, er2, hr2⟩ : ∃ a b c d e, readR s = ((a, b, c, d), e) := ⟨_, _, _, _, _, rfl⟩
  have HR1 := hid (fun w => read_any s hi2 lo2 sp2 f2 er2 w hs hr2)
  have q := eqP
  by_cases g0 : er = 0
  case neg =>
    have g0' : (er == 0) = false := beq_eq_false_iff_ne.2 g0
    clear g0 hr
    by_cases g2 : er2 = 0
    case neg =>
      have g2' : (er2 != 0) = true := by rw [bne, beq_eq_false_iff_ne.2 g2]; rfl
      clear g2 hr2
      go_enter Try.func8, Try.ntmps8
      go_wp2_with fail
      refine (HW1.out _).mono ?_
      rintro e w1 ⟨rfl, hb1⟩
      have HP1 := hid (HP0.out.later hb1)
      have HB1 := hid (HB0.out.trans (hb1.mono (by simp)))
      clear hb1
      go_wp2_with fail
      have HBc := hid HB1.out
      refine (HR1.out _).mono ?_
      rintro e w3 ⟨rfl, hb3⟩
      have HB3 := hid (HBc.out.trans (hb3.mono HBc.out.size))
      have HN3 : Hid (Below W.heap.size W (w3.alloc (.cells #[.int .u64 hi2, .int .u64 lo2, .int .u64 sp2, .int .i64 f2] 44))) := hid (HB3.out.trans (by have := HB3.out.size; go_grown; all_goals omega))
      clear hb3
      go_wp2_with fail
      refine (HK.out _).mono ?_
      rintro e w4 ⟨rfl, hb4⟩
      have HB4 := hid (HN3.out.trans (hb4.mono HN3.out.size))
      clear hb4
      go_wp2_with fail
      go_ret
      exact ⟨rfl, HB4.out⟩
    subst g2
    obtain ⟨l1, l2, l3, hw2, hb2, hs2, hver⟩ := read_back s hi2 lo2 sp2 f2 hr2
    have hsw := (whole_facts hi2 lo2 sp2 f2).size
    have HW2 := hid (fun w => write_any hi2 lo2 sp2 f2 (whole hi2 lo2 sp2 f2) 0 w l1 l2 l3 hw2)
    have HR2 := hid (fun w => read_any (whole hi2 lo2 sp2 f2) hi2 lo2 sp2 f2 0 w (by omega) hb2)
    clear hw2 hb2 hsw hr2
    generalize whole hi2 lo2 sp2 f2 = u at HW2 HR2 hver
    by_cases ver : s.extract 0 2 = zzs
    case pos =>
      obtain rfl := hver ver
      have k2 : ((u.extract 0 2).toList != [48, 48]) = false := by rw [ver, show zzs.toList = [48, 48] from ByteArray.toList_eq _]; rfl
      have k3 : ((u.extract 0 2).toList == [48, 48]) = true := by rw [ver, show zzs.toList = [48, 48] from ByteArray.toList_eq _]; rfl
      clear ver hver
      go_enter Try.func8, Try.ntmps8
      go_wp2_with fail
      refine (HW1.out _).mono ?_
      rintro e w1 ⟨rfl, hb1⟩
      have HP1 := hid (HP0.out.later hb1)
      have HB1 := hid (HB0.out.trans (hb1.mono (by simp)))
      clear hb1
      go_wp2_with fail
      have HBc := hid HB1.out
      refine (HR1.out _).mono ?_
      rintro e w3 ⟨rfl, hb3⟩
      have HB3 := hid (HBc.out.trans (hb3.mono HBc.out.size))
      have HX3 := hid (Blk.new w3 #[.int .u64 hi2, .int .u64 lo2, .int .u64 sp2, .int .i64 f2] 44)
      have HN3 : Hid (Below W.heap.size W (w3.alloc (.cells #[.int .u64 hi2, .int .u64 lo2, .int .u64 sp2, .int .i64 f2] 44))) := hid (HB3.out.trans (by have := HB3.out.size; go_grown; all_goals omega))
      clear hb3
      go_wp2_with fail
      refine (HW2.out _).mono ?_
      rintro e w4 ⟨rfl, hb4⟩
      have HB4 := hid (HN3.out.trans (hb4.mono HN3.out.size))
      have HX4 := hid (HX3.out.later hb4)
      clear hb4
      go_wp2_with fail
      refine (HR2.out _).mono ?_
      rintro e w5 ⟨rfl, hb5⟩
      have HB5 := hid (HB4.out.trans (hb5.mono HB4.out.size))
      have HX5 := hid (HX4.out.later hb5)
      have x0 : w5.cell? ⟨w3.heap.size, 0, none⟩ = some (.int .u64 hi2) := HX5.out.cell 0
      have x1 : w5.cell? ⟨w3.heap.size, 1, none⟩ = some (.int .u64 lo2) := HX5.out.cell 1
      have x2 : w5.cell? ⟨w3.heap.size, 2, none⟩ = some (.int .u64 sp2) := HX5.out.cell 2
      have x3 : w5.cell? ⟨w3.heap.size, 3, none⟩ = some (.int .i64 f2) := HX5.out.cell 3
      have hx5 := HX5.out.lt
      have HN5 : Hid (Below W.heap.size W (w5.alloc (.cells #[.int .u64 hi2, .int .u64 lo2, .int .u64 sp2, .int .i64 f2] 44))) := hid (HB5.out.trans (by have := HB5.out.size; go_grown; all_goals omega))
      clear hb5
      go_wp2_with fail
      all_goals
        refine (HK.out _).mono ?_
        rintro e w6 ⟨rfl, hb6⟩
        have HB6 := hid (HN5.out.trans (hb6.mono HN5.out.size))
        clear hb6
        go_wp2_with fail
        go_ret
        exact ⟨rfl, HB6.out⟩
    have k2 : ((s.extract 0 2).toList != [48, 48]) = true := by
      have := (strEq_of (decide_eq_false ver)).ne
      rwa [show zzs.toList = [48, 48] from ByteArray.toList_eq _] at this
    have k3 : ((s.extract 0 2).toList == [48, 48]) = false := by
      have := (strEq_of (decide_eq_false ver)).eq
      rwa [show zzs.toList = [48, 48] from ByteArray.toList_eq _] at this
    have k4 : ¬ (s.extract 0 2).toList = [48, 48] := beq_eq_false_iff_ne.1 k3
    clear ver hver
    go_enter Try.func8, Try.ntmps8
    go_wp2_with fail
    refine (HW1.out _).mono ?_
    rintro e w1 ⟨rfl, hb1⟩
    have HP1 := hid (HP0.out.later hb1)
    have HB1 := hid (HB0.out.trans (hb1.mono (by simp)))
    clear hb1
    go_wp2_with fail
    have HBc := hid HB1.out
    refine (HR1.out _).mono ?_
    rintro e w3 ⟨rfl, hb3⟩
    have HB3 := hid (HBc.out.trans (hb3.mono HBc.out.size))
    have HX3 := hid (Blk.new w3 #[.int .u64 hi2, .int .u64 lo2, .int .u64 sp2, .int .i64 f2] 44)
    have HN3 : Hid (Below W.heap.size W (w3.alloc (.cells #[.int .u64 hi2, .int .u64 lo2, .int .u64 sp2, .int .i64 f2] 44))) := hid (HB3.out.trans (by have := HB3.out.size; go_grown; all_goals omega))
    clear hb3
    go_wp2_with fail
    refine (HW2.out _).mono ?_
    rintro e w4 ⟨rfl, hb4⟩
    have HB4 := hid (HN3.out.trans (hb4.mono HN3.out.size))
    have HX4 := hid (HX3.out.later hb4)
    clear hb4
    go_wp2_with fail
    refine (HR2.out _).mono ?_
    rintro e w5 ⟨rfl, hb5⟩
    have HB5 := hid (HB4.out.trans (hb5.mono HB4.out.size))
    have HX5 := hid (HX4.out.later hb5)
    have x0 : w5.cell? ⟨w3.heap.size, 0, none⟩ = some (.int .u64 hi2) := HX5.out.cell 0
    have x1 : w5.cell? ⟨w3.heap.size, 1, none⟩ = some (.int .u64 lo2) := HX5.out.cell 1
    have x2 : w5.cell? ⟨w3.heap.size, 2, none⟩ = some (.int .u64 sp2) := HX5.out.cell 2
    have x3 : w5.cell? ⟨w3.heap.size, 3, none⟩ = some (.int .i64 f2) := HX5.out.cell 3
    have hx5 := HX5.out.lt
    have HN5 : Hid (Below W.heap.size W (w5.alloc (.cells #[.int .u64 hi2, .int .u64 lo2, .int .u64 sp2, .int .i64 f2] 44))) := hid (HB5.out.trans (by have := HB5.out.size; go_grown; all_goals omega))
    clear hb5
    go_wp2_with fail
    all_goals
      refine (HK.out _).mono ?_
      rintro e w6 ⟨rfl, hb6⟩
      have HB6 := hid (HN5.out.trans (hb6.mono HN5.out.size))
      clear hb6
      go_wp2_with fail
      go_ret
      exact ⟨rfl, HB6.out⟩
  subst g0
  obtain ⟨g, rfl, hg, ht, hrt⟩ := write_back hi lo sp f t h1 h2 h3 hr
  have HRt := hid (fun w => read_any t hi lo sp g 0 w (by omega) hrt)
  have ht' : ((t.size : Int) != 55) = false := by rw [ht]; rfl
  clear hr hrt ht
  by_cases g2 : er2 = 0
  case neg =>
    have g2' : (er2 != 0) = true := by rw [bne, beq_eq_false_iff_ne.2 g2]; rfl
    clear g2 hr2
    go_enter Try.func8, Try.ntmps8
    go_wp2_with fail
    refine (HW1.out _).mono ?_
    rintro e w1 ⟨rfl, hb1⟩
    have HP1 := hid (HP0.out.later hb1)
    have HB1 := hid (HB0.out.trans (hb1.mono (by simp)))
    clear hb1
    go_wp2_with fail
    refine (HRt.out _).mono ?_
    rintro e w2 ⟨rfl, hb2⟩
    have HP2 := hid (HP1.out.later hb2)
    have c0 : w2.cell? ⟨W.heap.size, 0, none⟩ = some (.int .u64 hi) := HP2.out.cell 0
    have c1 : w2.cell? ⟨W.heap.size, 1, none⟩ = some (.int .u64 lo) := HP2.out.cell 1
    have c2 : w2.cell? ⟨W.heap.size, 2, none⟩ = some (.int .u64 sp) := HP2.out.cell 2
    have c3 : w2.cell? ⟨W.heap.size, 3, none⟩ = some (.int .i64 g) := HP2.out.cell 3
    have hl2 := HP2.out.lt
    have HB2 := hid (HB1.out.trans (hb2.mono HB1.out.size))
    have HBc : Hid (Below W.heap.size W (w2.alloc (.cells #[.int .u64 hi, .int .u64 lo, .int .u64 sp, .int .i64 g] 44))) := hid (HB2.out.trans (by have := HB2.out.size; go_grown; all_goals omega))
    clear hb2
    go_wp2_with fail
    refine (HR1.out _).mono ?_
    rintro e w3 ⟨rfl, hb3⟩
    have HB3 := hid (HBc.out.trans (hb3.mono HBc.out.size))
    have HN3 : Hid (Below W.heap.size W (w3.alloc (.cells #[.int .u64 hi2, .int .u64 lo2, .int .u64 sp2, .int .i64 f2] 44))) := hid (HB3.out.trans (by have := HB3.out.size; go_grown; all_goals omega))
    clear hb3
    go_wp2_with fail
    refine (HK.out _).mono ?_
    rintro e w4 ⟨rfl, hb4⟩
    have HB4 := hid (HN3.out.trans (hb4.mono HN3.out.size))
    clear hb4
    go_wp2_with fail
    go_ret
    exact ⟨rfl, HB4.out⟩
  subst g2
  obtain ⟨l1, l2, l3, hw2, hb2, hs2, hver⟩ := read_back s hi2 lo2 sp2 f2 hr2
  have hsw := (whole_facts hi2 lo2 sp2 f2).size
  have HW2 := hid (fun w => write_any hi2 lo2 sp2 f2 (whole hi2 lo2 sp2 f2) 0 w l1 l2 l3 hw2)
  have HR2 := hid (fun w => read_any (whole hi2 lo2 sp2 f2) hi2 lo2 sp2 f2 0 w (by omega) hb2)
  clear hw2 hb2 hsw hr2
  generalize whole hi2 lo2 sp2 f2 = u at HW2 HR2 hver
  by_cases ver : s.extract 0 2 = zzs
  case pos =>
    obtain rfl := hver ver
    have k2 : ((u.extract 0 2).toList != [48, 48]) = false := by rw [ver, show zzs.toList = [48, 48] from ByteArray.toList_eq _]; rfl
    have k3 : ((u.extract 0 2).toList == [48, 48]) = true := by rw [ver, show zzs.toList = [48, 48] from ByteArray.toList_eq _]; rfl
    clear ver hver
    go_enter Try.func8, Try.ntmps8
    go_wp2_with fail
    refine (HW1.out _).mono ?_
    rintro e w1 ⟨rfl, hb1⟩
    have HP1 := hid (HP0.out.later hb1)
    have HB1 := hid (HB0.out.trans (hb1.mono (by simp)))
    clear hb1
    go_wp2_with fail
    refine (HRt.out _).mono ?_
    rintro e w2 ⟨rfl, hb2⟩
    have HP2 := hid (HP1.out.later hb2)
    have c0 : w2.cell? ⟨W.heap.size, 0, none⟩ = some (.int .u64 hi) := HP2.out.cell 0
    have c1 : w2.cell? ⟨W.heap.size, 1, none⟩ = some (.int .u64 lo) := HP2.out.cell 1
    have c2 : w2.cell? ⟨W.heap.size, 2, none⟩ = some (.int .u64 sp) := HP2.out.cell 2
    have c3 : w2.cell? ⟨W.heap.size, 3, none⟩ = some (.int .i64 g) := HP2.out.cell 3
    have hl2 := HP2.out.lt
    have HB2 := hid (HB1.out.trans (hb2.mono HB1.out.size))
    have HBc : Hid (Below W.heap.size W (w2.alloc (.cells #[.int .u64 hi, .int .u64 lo, .int .u64 sp, .int .i64 g] 44))) := hid (HB2.out.trans (by have := HB2.out.size; go_grown; all_goals omega))
    clear hb2
    go_wp2_with fail
    refine (HR1.out _).mono ?_
    rintro e w3 ⟨rfl, hb3⟩
    have HB3 := hid (HBc.out.trans (hb3.mono HBc.out.size))
    have HX3 := hid (Blk.new w3 #[.int .u64 hi2, .int .u64 lo2, .int .u64 sp2, .int .i64 f2] 44)
    have HN3 : Hid (Below W.heap.size W (w3.alloc (.cells #[.int .u64 hi2, .int .u64 lo2, .int .u64 sp2, .int .i64 f2] 44))) := hid (HB3.out.trans (by have := HB3.out.size; go_grown; all_goals omega))
    clear hb3
    go_wp2_with fail
    refine (HW2.out _).mono ?_
    rintro e w4 ⟨rfl, hb4⟩
    have HB4 := hid (HN3.out.trans (hb4.mono HN3.out.size))
    have HX4 := hid (HX3.out.later hb4)
    clear hb4
    go_wp2_with fail
    refine (HR2.out _).mono ?_
    rintro e w5 ⟨rfl, hb5⟩
    have HB5 := hid (HB4.out.trans (hb5.mono HB4.out.size))
    have HX5 := hid (HX4.out.later hb5)
    have x0 : w5.cell? ⟨w3.heap.size, 0, none⟩ = some (.int .u64 hi2) := HX5.out.cell 0
    have x1 : w5.cell? ⟨w3.heap.size, 1, none⟩ = some (.int .u64 lo2) := HX5.out.cell 1
    have x2 : w5.cell? ⟨w3.heap.size, 2, none⟩ = some (.int .u64 sp2) := HX5.out.cell 2
    have x3 : w5.cell? ⟨w3.heap.size, 3, none⟩ = some (.int .i64 f2) := HX5.out.cell 3
    have hx5 := HX5.out.lt
    have HN5 : Hid (Below W.heap.size W (w5.alloc (.cells #[.int .u64 hi2, .int .u64 lo2, .int .u64 sp2, .int .i64 f2] 44))) := hid (HB5.out.trans (by have := HB5.out.size; go_grown; all_goals omega))
    clear hb5
    go_wp2_with fail
    all_goals
      refine (HK.out _).mono ?_
      rintro e w6 ⟨rfl, hb6⟩
      have HB6 := hid (HN5.out.trans (hb6.mono HN5.out.size))
      clear hb6
      go_wp2_with fail
      go_ret
      exact ⟨rfl, HB6.out⟩
  have k2 : ((s.extract 0 2).toList != [48, 48]) = true := by
    have := (strEq_of (decide_eq_false ver)).ne
    rwa [show zzs.toList = [48, 48] from ByteArray.toList_eq _] at this
  have k3 : ((s.extract 0 2).toList == [48, 48]) = false := by
    have := (strEq_of (decide_eq_false ver)).eq
    rwa [show zzs.toList = [48, 48] from ByteArray.toList_eq _] at this
  have k4 : ¬ (s.extract 0 2).toList = [48, 48] := beq_eq_false_iff_ne.1 k3
  clear ver hver
  go_enter Try.func8, Try.ntmps8
  go_wp2_with fail
  refine (HW1.out _).mono ?_
  rintro e w1 ⟨rfl, hb1⟩
  have HP1 := hid (HP0.out.later hb1)
  have HB1 := hid (HB0.out.trans (hb1.mono (by simp)))
  clear hb1
  go_wp2_with fail
  refine (HRt.out _).mono ?_
  rintro e w2 ⟨rfl, hb2⟩
  have HP2 := hid (HP1.out.later hb2)
  have c0 : w2.cell? ⟨W.heap.size, 0, none⟩ = some (.int .u64 hi) := HP2.out.cell 0
  have c1 : w2.cell? ⟨W.heap.size, 1, none⟩ = some (.int .u64 lo) := HP2.out.cell 1
  have c2 : w2.cell? ⟨W.heap.size, 2, none⟩ = some (.int .u64 sp) := HP2.out.cell 2
  have c3 : w2.cell? ⟨W.heap.size, 3, none⟩ = some (.int .i64 g) := HP2.out.cell 3
  have hl2 := HP2.out.lt
  have HB2 := hid (HB1.out.trans (hb2.mono HB1.out.size))
  have HBc : Hid (Below W.heap.size W (w2.alloc (.cells #[.int .u64 hi, .int .u64 lo, .int .u64 sp, .int .i64 g] 44))) := hid (HB2.out.trans (by have := HB2.out.size; go_grown; all_goals omega))
  clear hb2
  go_wp2_with fail
  refine (HR1.out _).mono ?_
  rintro e w3 ⟨rfl, hb3⟩
  have HB3 := hid (HBc.out.trans (hb3.mono HBc.out.size))
  have HX3 := hid (Blk.new w3 #[.int .u64 hi2, .int .u64 lo2, .int .u64 sp2, .int .i64 f2] 44)
  have HN3 : Hid (Below W.heap.size W (w3.alloc (.cells #[.int .u64 hi2, .int .u64 lo2, .int .u64 sp2, .int .i64 f2] 44))) := hid (HB3.out.trans (by have := HB3.out.size; go_grown; all_goals omega))
  clear hb3
  go_wp2_with fail
  refine (HW2.out _).mono ?_
  rintro e w4 ⟨rfl, hb4⟩
  have HB4 := hid (HN3.out.trans (hb4.mono HN3.out.size))
  have HX4 := hid (HX3.out.later hb4)
  clear hb4
  go_wp2_with fail
  refine (HR2.out _).mono ?_
  rintro e w5 ⟨rfl, hb5⟩
  have HB5 := hid (HB4.out.trans (hb5.mono HB4.out.size))
  have HX5 := hid (HX4.out.later hb5)
  have x0 : w5.cell? ⟨w3.heap.size, 0, none⟩ = some (.int .u64 hi2) := HX5.out.cell 0
  have x1 : w5.cell? ⟨w3.heap.size, 1, none⟩ = some (.int .u64 lo2) := HX5.out.cell 1
  have x2 : w5.cell? ⟨w3.heap.size, 2, none⟩ = some (.int .u64 sp2) := HX5.out.cell 2
  have x3 : w5.cell? ⟨w3.heap.size, 3, none⟩ = some (.int .i64 f2) := HX5.out.cell 3
  have hx5 := HX5.out.lt
  have HN5 : Hid (Below W.heap.size W (w5.alloc (.cells #[.int .u64 hi2, .int .u64 lo2, .int .u64 sp2, .int .i64 f2] 44))) := hid (HB5.out.trans (by have := HB5.out.size; go_grown; all_goals omega))
  clear hb5
  go_wp2_with fail
  all_goals
    refine (HK.out _).mono ?_
    rintro e w6 ⟨rfl, hb6⟩
    have HB6 := hid (HN5.out.trans (hb6.mono HN5.out.size))
    clear hb6
    go_wp2_with fail
    go_ret
    exact ⟨rfl, HB6.out⟩
end C07
end Go.Proofs.Ytpamnknfccmgcaa
