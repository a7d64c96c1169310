/- Walks of layer 7 (parent): the reference, whether a text is well formed; no condition. -/
import Derived.Test.YtpamnknfccmgcaaF07
namespace Go.Proofs.Ytpamnknfccmgcaa
open Go.RowKit Go.Peri
namespace C07
open C01 C06
set_option maxRecDepth 100000 in
set_option maxHeartbeats 1000000 in
theorem rformed_any (s : ByteArray) (r : Bool) (W : World) (hs : s.size ≤ 1000000000000000) (hr : formR s = r) :
    Calls Try.prog 131 #[.string s] W fun e w' => e = .returned (.bool r) ∧ W = w' := by
  unfold formR at hr
  by_cases hsz : s.size < 55
  · rw [decide_eq_false (by omega), Bool.false_and] at hr
    subst hr
    go_enter Try.func131, Try.ntmps131
    go_wp2_with fail
    go_ret
    exact ⟨rfl, rfl⟩
  rw [decide_eq_true (by omega), Bool.true_and] at hr
  unfold tailR endR at hr
  have HD0 := hid (fun (q : Bool) (h : hexAll (s.extract 0 2) = q) (w : World) => rdigits_any (s.extract 0 2) q w (by rw [ByteArray.size_extract]; omega) h)
  obtain ⟨d0, hd0⟩ : ∃ q, hexAll (s.extract 0 2) = q := ⟨_, rfl⟩
  have HX0 := hid (HD0.out d0 hd0)
  rw [hd0] at hr
  clear HD0 hd0
  have HD1 := hid (fun (q : Bool) (h : hexAll (s.extract 3 35) = q) (w : World) => rdigits_any (s.extract 3 35) q w (by rw [ByteArray.size_extract]; omega) h)
  obtain ⟨d1, hd1⟩ : ∃ q, hexAll (s.extract 3 35) = q := ⟨_, rfl⟩
  have HX1 := hid (HD1.out d1 hd1)
  rw [hd1] at hr
  clear HD1 hd1
  have HD2 := hid (fun (q : Bool) (h : hexAll (s.extract 36 52) = q) (w : World) => rdigits_any (s.extract 36 52) q w (by rw [ByteArray.size_extract]; omega) h)
  obtain ⟨d2, hd2⟩ : ∃ q, hexAll (s.extract 36 52) = q := ⟨_, rfl⟩
  have HX2 := hid (HD2.out d2 hd2)
  rw [hd2] at hr
  clear HD2 hd2
  have HD3 := hid (fun (q : Bool) (h : hexAll (s.extract 53 55) = q) (w : World) => rdigits_any (s.extract 53 55) q w (by rw [ByteArray.size_extract]; omega) h)
  obtain ⟨d3, hd3⟩ : ∃ q, hexAll (s.extract 53 55) = q := ⟨_, rfl⟩
  have HX3 := hid (HD3.out d3 hd3)
  rw [hd3] at hr
  clear HD3 hd3
  have ha2 : 2 < s.size := by omega
  obtain ⟨c2, hc2⟩ : ∃ c, dashB s 2 = c := ⟨_, rfl⟩
  have hn2 := (dash_of s 2 ha2 hc2).ne
  rw [hc2] at hr
  clear hc2
  have ha35 : 35 < s.size := by omega
  obtain ⟨c35, hc35⟩ : ∃ c, dashB s 35 = c := ⟨_, rfl⟩
  have hn35 := (dash_of s 35 ha35 hc35).ne
  rw [hc35] at hr
  clear hc35
  have ha52 : 52 < s.size := by omega
  obtain ⟨c52, hc52⟩ : ∃ c, dashB s 52 = c := ⟨_, rfl⟩
  have hn52 := (dash_of s 52 ha52 hc52).ne
  rw [hc52] at hr
  clear hc52
  obtain ⟨v1, h1⟩ : ∃ q, decide (s.extract 0 2 = ffs) = q := ⟨_, rfl⟩
  obtain ⟨v2, h2⟩ : ∃ q, decide (s.extract 0 2 = zzs) = q := ⟨_, rfl⟩
  have k1 : ((s.extract 0 2).toList == [102, 102]) = v1 := by rw [← (strEq_of h1).eq, show ffs.toList = [102, 102] from ByteArray.toList_eq _]
  have k2 : ((s.extract 0 2).toList == [48, 48]) = v2 := by rw [← (strEq_of h2).eq, show zzs.toList = [48, 48] from ByteArray.toList_eq _]
  rw [h1, h2] at hr
  clear h1 h2
  have HR := hid hr
  clear hr
  cases c2
  case false =>
    go_enter Try.func131, Try.ntmps131
    go_wp2_with fail
    go_ret
    exact ⟨by rw [← HR.out]; simp, rfl⟩
  cases c35
  case false =>
    go_enter Try.func131, Try.ntmps131
    go_wp2_with fail
    go_ret
    exact ⟨by rw [← HR.out]; simp, rfl⟩
  cases c52
  case false =>
    go_enter Try.func131, Try.ntmps131
    go_wp2_with fail
    go_ret
    exact ⟨by rw [← HR.out]; simp, rfl⟩
  cases d0
  case false =>
    go_enter Try.func131, Try.ntmps131
    go_wp2_with fail
    refine (HX0.out _).mono ?_
    rintro e w' ⟨rfl, rfl⟩
    go_wp2_with fail
    go_ret
    exact ⟨by rw [← HR.out]; simp, rfl⟩
  cases v1
  case true =>
    go_enter Try.func131, Try.ntmps131
    go_wp2_with fail
    refine (HX0.out _).mono ?_
    rintro e w' ⟨rfl, rfl⟩
    go_wp2_with fail
    go_ret
    exact ⟨by rw [← HR.out]; simp, rfl⟩
  by_cases g : s.size = 55
  · have g1 : ((s.size : Int) != 55) = false := by rw [g]; rfl
    have g2 : ¬ (55 : Int) < (s.size : Int) := by omega
    rw [decide_eq_true g] at HR
    clear g
    cases v2
    case false =>
      cases d1
      case false =>
        go_enter Try.func131, Try.ntmps131
        go_wp2_with fail
        refine (HX0.out _).mono ?_
        rintro e w' ⟨rfl, rfl⟩
        go_wp2_with fail
        refine (HX1.out _).mono ?_
        rintro e w' ⟨rfl, rfl⟩
        go_wp2_with fail
        go_ret
        exact ⟨by rw [← HR.out]; simp, rfl⟩
      cases d2
      case false =>
        go_enter Try.func131, Try.ntmps131
        go_wp2_with fail
        refine (HX0.out _).mono ?_
        rintro e w' ⟨rfl, rfl⟩
        go_wp2_with fail
        refine (HX1.out _).mono ?_
        rintro e w' ⟨rfl, rfl⟩
        go_wp2_with fail
        refine (HX2.out _).mono ?_
        rintro e w' ⟨rfl, rfl⟩
        go_wp2_with fail
        go_ret
        exact ⟨by rw [← HR.out]; simp, rfl⟩
      go_enter Try.func131, Try.ntmps131
      go_wp2_with fail
      refine (HX0.out _).mono ?_
      rintro e w' ⟨rfl, rfl⟩
      go_wp2_with fail
      refine (HX1.out _).mono ?_
      rintro e w' ⟨rfl, rfl⟩
      go_wp2_with fail
      refine (HX2.out _).mono ?_
      rintro e w' ⟨rfl, rfl⟩
      go_wp2_with fail
      refine (HX3.out _).mono ?_
      rintro e w' ⟨rfl, rfl⟩
      go_wp2_with fail
      go_ret
      exact ⟨by rw [← HR.out]; simp, rfl⟩
    case true =>
      cases d1
      case false =>
        go_enter Try.func131, Try.ntmps131
        go_wp2_with fail
        refine (HX0.out _).mono ?_
        rintro e w' ⟨rfl, rfl⟩
        go_wp2_with fail
        refine (HX1.out _).mono ?_
        rintro e w' ⟨rfl, rfl⟩
        go_wp2_with fail
        go_ret
        exact ⟨by rw [← HR.out]; simp, rfl⟩
      cases d2
      case false =>
        go_enter Try.func131, Try.ntmps131
        go_wp2_with fail
        refine (HX0.out _).mono ?_
        rintro e w' ⟨rfl, rfl⟩
        go_wp2_with fail
        refine (HX1.out _).mono ?_
        rintro e w' ⟨rfl, rfl⟩
        go_wp2_with fail
        refine (HX2.out _).mono ?_
        rintro e w' ⟨rfl, rfl⟩
        go_wp2_with fail
        go_ret
        exact ⟨by rw [← HR.out]; simp, rfl⟩
      go_enter Try.func131, Try.ntmps131
      go_wp2_with fail
      refine (HX0.out _).mono ?_
      rintro e w' ⟨rfl, rfl⟩
      go_wp2_with fail
      refine (HX1.out _).mono ?_
      rintro e w' ⟨rfl, rfl⟩
      go_wp2_with fail
      refine (HX2.out _).mono ?_
      rintro e w' ⟨rfl, rfl⟩
      go_wp2_with fail
      refine (HX3.out _).mono ?_
      rintro e w' ⟨rfl, rfl⟩
      go_wp2_with fail
      go_ret
      exact ⟨by rw [← HR.out]; simp, rfl⟩
  · have g1 : ((s.size : Int) != 55) = true := by rw [bne, beq_eq_false_iff_ne.2 (by omega)]; rfl
    have g2 : (55 : Int) < (s.size : Int) := by omega
    have ha55 : 55 < s.size := by omega
    rw [decide_eq_false g] at HR
    clear g
    cases v2
    case true =>
      go_enter Try.func131, Try.ntmps131
      go_wp2_with fail
      refine (HX0.out _).mono ?_
      rintro e w' ⟨rfl, rfl⟩
      go_wp2_with fail
      go_ret
      exact ⟨by rw [← HR.out]; simp, rfl⟩
    obtain ⟨c55, hc55⟩ : ∃ c, dashB s 55 = c := ⟨_, rfl⟩
    have hn55 := (dash_of s 55 ha55 hc55).ne
    rw [hc55] at HR
    clear hc55
    cases c55
    case false =>
      go_enter Try.func131, Try.ntmps131
      go_wp2_with fail
      refine (HX0.out _).mono ?_
      rintro e w' ⟨rfl, rfl⟩
      go_wp2_with fail
      go_ret
      exact ⟨by rw [← HR.out]; simp, rfl⟩
    cases d1
    case false =>
      go_enter Try.func131, Try.ntmps131
      go_wp2_with fail
      refine (HX0.out _).mono ?_
      rintro e w' ⟨rfl, rfl⟩
      go_wp2_with fail
      refine (HX1.out _).mono ?_
      rintro e w' ⟨rfl, rfl⟩
      go_wp2_with fail
      go_ret
      exact ⟨by rw [← HR.out]; simp, rfl⟩
    cases d2
    case false =>
      go_enter Try.func131, Try.ntmps131
      go_wp2_with fail
      refine (HX0.out _).mono ?_
      rintro e w' ⟨rfl, rfl⟩
      go_wp2_with fail
      refine (HX1.out _).mono ?_
      rintro e w' ⟨rfl, rfl⟩
      go_wp2_with fail
      refine (HX2.out _).mono ?_
      rintro e w' ⟨rfl, rfl⟩
      go_wp2_with fail
      go_ret
      exact ⟨by rw [← HR.out]; simp, rfl⟩
    go_enter Try.func131, Try.ntmps131
    go_wp2_with fail
    refine (HX0.out _).mono ?_
    rintro e w' ⟨rfl, rfl⟩
    go_wp2_with fail
    refine (HX1.out _).mono ?_
    rintro e w' ⟨rfl, rfl⟩
    go_wp2_with fail
    refine (HX2.out _).mono ?_
    rintro e w' ⟨rfl, rfl⟩
    go_wp2_with fail
    refine (HX3.out _).mono ?_
    rintro e w' ⟨rfl, rfl⟩
    go_wp2_with fail
    go_ret
    exact ⟨by rw [← HR.out]; simp, rfl⟩
end C07
end Go.Proofs.Ytpamnknfccmgcaa
