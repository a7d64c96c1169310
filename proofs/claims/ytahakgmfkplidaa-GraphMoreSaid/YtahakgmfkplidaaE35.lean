/- Walks of layer 34 (prog): whether an operation may be; no condition. -/
import Derived.Test.YtahakgmfkplidaaD35
import Derived.Deep.DeepCutAuto
namespace Go.Proofs.Ytahakgmfkplidaa
open Go.RowKit Go.Peri
namespace C35
open C11 (pathOk)
theorem blk4o {w : World} {g t : Nat} {a0 a1 a2 a3 : Value} (h : Blk w g #[a0, a1, a2, a3] t) :
    w.cell? ⟨g, 0, none⟩ = some a0 ∧ w.cell? ⟨g, 1, none⟩ = some a1 ∧ w.cell? ⟨g, 2, none⟩ = some a2 ∧ w.cell? ⟨g, 3, none⟩ = some a3 ∧ ∀ i, w.frozen? ⟨g, i, none⟩ = false :=
  ⟨h.cell 0, h.cell 1, h.cell 2, h.cell 3, h.free⟩
/-- Something is told that should not be. -/
def argB (o : Opr) : Bool := !shOk o.kind || (((shA o.kind == 0) && !o.a.toList.isEmpty) || (((shB o.kind == 0) && !o.b.toList.isEmpty) || ((shN o.kind == 0) && (o.n != 0))))
def chk (o : Opr) : Int := if argB o = true then 2 else if (fitE o.a (shA o.kind) != 0) = true then fitE o.a (shA o.kind) else if ((o.kind == 4) && tracedB o.a) = true then 7 else if (fitE o.b (shB o.kind) != 0) = true then fitE o.b (shB o.kind) else if ((shN o.kind == 4) && (decide (o.n < 100) || decide (599 < o.n))) = true then 12 else 0
set_option maxRecDepth 100000 in
set_option maxHeartbeats 8000000 in
theorem check_any (o : Opr) (r : Int) (W : World) (ha : o.a.size ≤ 1000000000000000) (hb : o.b.size ≤ 1000000000000000) (hr : chk o = r) :
    Calls Try.prog 46 #[.agg #[.int .i64 o.kind, .string o.a, .string o.b, .int .i64 o.n]] W fun e w' => e = .returned (.int .i64 r) ∧ Below W.heap.size W w' := by
  have HO := hid (fun w => of_any o.kind w)
  have HFA := hid (fun w => fits_any o.a (shA o.kind) (fitE o.a (shA o.kind)) w ha rfl)
  have HFB := hid (fun w => fits_any o.b (shB o.kind) (fitE o.b (shB o.kind)) w hb rfl)
  have HTR := hid (fun w => traced_any o.a w)
  have HR := hid hr
  unfold chk argB at HR
  clear hr
  obtain ⟨ok, hok⟩ : ∃ q, shOk o.kind = q := ⟨_, rfl⟩
  obtain ⟨sw, hsw⟩ : ∃ q, shW o.kind = q := ⟨_, rfl⟩
  obtain ⟨fa, hfa⟩ : ∃ q, fitE o.a (shA o.kind) = q := ⟨_, rfl⟩
  obtain ⟨fb, hfb⟩ : ∃ q, fitE o.b (shB o.kind) = q := ⟨_, rfl⟩
  obtain ⟨tr, htr⟩ : ∃ q, tracedB o.a = q := ⟨_, rfl⟩
  rw [hfa] at HFA
  rw [hfb] at HFB
  rw [htr] at HTR
  rw [hok, hfa, hfb, htr] at HR
  obtain ⟨sa, hsa⟩ : ∃ q, shA o.kind = q := ⟨_, rfl⟩
  obtain ⟨sb, hsb⟩ : ∃ q, shB o.kind = q := ⟨_, rfl⟩
  obtain ⟨sn, hsn⟩ : ∃ q, shN o.kind = q := ⟨_, rfl⟩
  rw [hok, hsw, hsa, hsb, hsn] at HO
  rw [hsa] at HFA
  rw [hsb] at HFB
  rw [hsa, hsb, hsn] at HR
  clear hok hsw hsa hsb hsn hfa hfb htr
  obtain ⟨Za, uza⟩ : ∃ q, (sa == 0) = q := ⟨_, rfl⟩
  obtain ⟨Zb, uzb⟩ : ∃ q, (sb == 0) = q := ⟨_, rfl⟩
  obtain ⟨Zn, uzn⟩ : ∃ q, (sn == 0) = q := ⟨_, rfl⟩
  rw [uza, uzb, uzn] at HR
  obtain ⟨Ta, hTa⟩ : ∃ q, q = (Za && !o.a.toList.isEmpty) := ⟨_, rfl⟩
  obtain ⟨Tb, hTb⟩ : ∃ q, q = (Zb && !o.b.toList.isEmpty) := ⟨_, rfl⟩
  obtain ⟨Tn, hTn⟩ : ∃ q, q = (Zn && (o.n != 0)) := ⟨_, rfl⟩
  rw [← hTa, ← hTb, ← hTn] at HR
  replace hTa := hid hTa
  replace hTb := hid hTb
  replace hTn := hid hTn
  go_enter Try.func46, Try.ntmps46
  go_upto_region 1 with fail
  refine wp_genG ?_
  intro w0 hw0
  have hb0 : Below W.heap.size W w0 := by rw [hw0]; go_grown
  have hk0 : Blk w0 W.heap.size #[.int .i64 o.kind, .string o.a, .string o.b, .int .i64 o.n] 45 := by rw [hw0]; exact Blk.new _ _ _
  clear hw0
  have HB0 := hid hb0
  have HK0 := hid hk0
  obtain ⟨x0, x1, x2, x3, -⟩ := blk4o hk0
  clear hb0 hk0
  go_wp2_with fail
  refine (HO.out _).mono ?_
  rintro e w1 ⟨rfl, hb1⟩
  have HB1 := hid (HB0.out.trans (hb1.mono HB0.out.size))
  have HK1 := hid (HK0.out.later hb1)
  clear hb1 x0 x1 x2 x3 HO HB0 HK0
  go_upto_region 2 with fail
  refine wp_genG ?_
  intro w2 hw2
  have hb2 : Below w1.heap.size w1 w2 := by rw [hw2]; go_grown
  have hk2 : Blk w2 w1.heap.size #[.string sw, .int .i64 sa, .int .i64 sb, .int .i64 sn] 73 := by rw [hw2]; exact Blk.new _ _ _
  clear hw2
  have HB2 := hid (HB1.out.trans (hb2.mono HB1.out.size))
  have HKX := hid (HK1.out.later hb2)
  have HKY := hid hk2
  clear hb2 hk2 HB1 HK1
  obtain ⟨x0, x1, x2, x3, -⟩ := blk4o HKX.out
  obtain ⟨y0, y1, y2, y3, -⟩ := blk4o HKY.out
  go_cut [44] (fun s44 wx => s44 = .bool (!ok || (Ta || (Tb || Tn))) ∧ w2 = wx)
  case first =>
    cases ok
    · skip
      go_wp2_with fail
      go_meet
      case rel => exact ⟨rfl, rfl⟩
    · skip
      by_cases ea : o.a.toList = []
      · have ka : o.a.toList.isEmpty = true := by rw [ea]; rfl
        have ja : Ta = false := by rw [hTa.out, ka]; cases Za <;> rfl
        subst ja
        cases Za
        · skip
          by_cases eb : o.b.toList = []
          · have kb : o.b.toList.isEmpty = true := by rw [eb]; rfl
            have jb : Tb = false := by rw [hTb.out, kb]; cases Zb <;> rfl
            subst jb
            cases Zb
            · skip
              by_cases en : o.n = 0
              · have kn : (o.n != 0) = false := by rw [en]; rfl
                have jn : Tn = false := by rw [hTn.out, kn]; cases Zn <;> rfl
                subst jn
                cases Zn
                · skip
                  go_wp2_with fail
                  go_meet
                  case rel => exact ⟨rfl, rfl⟩
                · skip
                  go_wp2_with fail
                  go_meet
                  case rel => exact ⟨rfl, rfl⟩
              · have kn : (o.n != 0) = true := by simpa using en
                have jn : Tn = Zn := by rw [hTn.out, kn]; cases Zn <;> rfl
                subst jn
                cases Tn
                · skip
                  go_wp2_with fail
                  go_meet
                  case rel => exact ⟨rfl, rfl⟩
                · skip
                  go_wp2_with fail
                  go_meet
                  case rel => exact ⟨rfl, rfl⟩
            · skip
              by_cases en : o.n = 0
              · have kn : (o.n != 0) = false := by rw [en]; rfl
                have jn : Tn = false := by rw [hTn.out, kn]; cases Zn <;> rfl
                subst jn
                cases Zn
                · skip
                  go_wp2_with fail
                  go_meet
                  case rel => exact ⟨rfl, rfl⟩
                · skip
                  go_wp2_with fail
                  go_meet
                  case rel => exact ⟨rfl, rfl⟩
              · have kn : (o.n != 0) = true := by simpa using en
                have jn : Tn = Zn := by rw [hTn.out, kn]; cases Zn <;> rfl
                subst jn
                cases Tn
                · skip
                  go_wp2_with fail
                  go_meet
                  case rel => exact ⟨rfl, rfl⟩
                · skip
                  go_wp2_with fail
                  go_meet
                  case rel => exact ⟨rfl, rfl⟩
          · have kb : o.b.toList.isEmpty = false := by rw [Bool.eq_false_iff]; intro h; exact eb (List.isEmpty_iff.1 h)
            have jb : Tb = Zb := by rw [hTb.out, kb]; cases Zb <;> rfl
            subst jb
            cases Tb
            · skip
              by_cases en : o.n = 0
              · have kn : (o.n != 0) = false := by rw [en]; rfl
                have jn : Tn = false := by rw [hTn.out, kn]; cases Zn <;> rfl
                subst jn
                cases Zn
                · skip
                  go_wp2_with fail
                  go_meet
                  case rel => exact ⟨rfl, rfl⟩
                · skip
                  go_wp2_with fail
                  go_meet
                  case rel => exact ⟨rfl, rfl⟩
              · have kn : (o.n != 0) = true := by simpa using en
                have jn : Tn = Zn := by rw [hTn.out, kn]; cases Zn <;> rfl
                subst jn
                cases Tn
                · skip
                  go_wp2_with fail
                  go_meet
                  case rel => exact ⟨rfl, rfl⟩
                · skip
                  go_wp2_with fail
                  go_meet
                  case rel => exact ⟨rfl, rfl⟩
            · skip
              go_wp2_with fail
              go_meet
              case rel => exact ⟨rfl, rfl⟩
        · skip
          by_cases eb : o.b.toList = []
          · have kb : o.b.toList.isEmpty = true := by rw [eb]; rfl
            have jb : Tb = false := by rw [hTb.out, kb]; cases Zb <;> rfl
            subst jb
            cases Zb
            · skip
              by_cases en : o.n = 0
              · have kn : (o.n != 0) = false := by rw [en]; rfl
                have jn : Tn = false := by rw [hTn.out, kn]; cases Zn <;> rfl
                subst jn
                cases Zn
                · skip
                  go_wp2_with fail
                  go_meet
                  case rel => exact ⟨rfl, rfl⟩
                · skip
                  go_wp2_with fail
                  go_meet
                  case rel => exact ⟨rfl, rfl⟩
              · have kn : (o.n != 0) = true := by simpa using en
                have jn : Tn = Zn := by rw [hTn.out, kn]; cases Zn <;> rfl
                subst jn
                cases Tn
                · skip
                  go_wp2_with fail
                  go_meet
                  case rel => exact ⟨rfl, rfl⟩
                · skip
                  go_wp2_with fail
                  go_meet
                  case rel => exact ⟨rfl, rfl⟩
            · skip
              by_cases en : o.n = 0
              · have kn : (o.n != 0) = false := by rw [en]; rfl
                have jn : Tn = false := by rw [hTn.out, kn]; cases Zn <;> rfl
                subst jn
                cases Zn
                · skip
                  go_wp2_with fail
                  go_meet
                  case rel => exact ⟨rfl, rfl⟩
                · skip
                  go_wp2_with fail
                  go_meet
                  case rel => exact ⟨rfl, rfl⟩
              · have kn : (o.n != 0) = true := by simpa using en
                have jn : Tn = Zn := by rw [hTn.out, kn]; cases Zn <;> rfl
                subst jn
                cases Tn
                · skip
                  go_wp2_with fail
                  go_meet
                  case rel => exact ⟨rfl, rfl⟩
                · skip
                  go_wp2_with fail
                  go_meet
                  case rel => exact ⟨rfl, rfl⟩
          · have kb : o.b.toList.isEmpty = false := by rw [Bool.eq_false_iff]; intro h; exact eb (List.isEmpty_iff.1 h)
            have jb : Tb = Zb := by rw [hTb.out, kb]; cases Zb <;> rfl
            subst jb
            cases Tb
            · skip
              by_cases en : o.n = 0
              · have kn : (o.n != 0) = false := by rw [en]; rfl
                have jn : Tn = false := by rw [hTn.out, kn]; cases Zn <;> rfl
                subst jn
                cases Zn
                · skip
                  go_wp2_with fail
                  go_meet
                  case rel => exact ⟨rfl, rfl⟩
                · skip
                  go_wp2_with fail
                  go_meet
                  case rel => exact ⟨rfl, rfl⟩
              · have kn : (o.n != 0) = true := by simpa using en
                have jn : Tn = Zn := by rw [hTn.out, kn]; cases Zn <;> rfl
                subst jn
                cases Tn
                · skip
                  go_wp2_with fail
                  go_meet
                  case rel => exact ⟨rfl, rfl⟩
                · skip
                  go_wp2_with fail
                  go_meet
                  case rel => exact ⟨rfl, rfl⟩
            · skip
              go_wp2_with fail
              go_meet
              case rel => exact ⟨rfl, rfl⟩
      · have ka : o.a.toList.isEmpty = false := by rw [Bool.eq_false_iff]; intro h; exact ea (List.isEmpty_iff.1 h)
        have ja : Ta = Za := by rw [hTa.out, ka]; cases Za <;> rfl
        subst ja
        cases Ta
        · skip
          by_cases eb : o.b.toList = []
          · have kb : o.b.toList.isEmpty = true := by rw [eb]; rfl
            have jb : Tb = false := by rw [hTb.out, kb]; cases Zb <;> rfl
            subst jb
            cases Zb
            · skip
              by_cases en : o.n = 0
              · have kn : (o.n != 0) = false := by rw [en]; rfl
                have jn : Tn = false := by rw [hTn.out, kn]; cases Zn <;> rfl
                subst jn
                cases Zn
                · skip
                  go_wp2_with fail
                  go_meet
                  case rel => exact ⟨rfl, rfl⟩
                · skip
                  go_wp2_with fail
                  go_meet
                  case rel => exact ⟨rfl, rfl⟩
              · have kn : (o.n != 0) = true := by simpa using en
                have jn : Tn = Zn := by rw [hTn.out, kn]; cases Zn <;> rfl
                subst jn
                cases Tn
                · skip
                  go_wp2_with fail
                  go_meet
                  case rel => exact ⟨rfl, rfl⟩
                · skip
                  go_wp2_with fail
                  go_meet
                  case rel => exact ⟨rfl, rfl⟩
            · skip
              by_cases en : o.n = 0
              · have kn : (o.n != 0) = false := by rw [en]; rfl
                have jn : Tn = false := by rw [hTn.out, kn]; cases Zn <;> rfl
                subst jn
                cases Zn
                · skip
                  go_wp2_with fail
                  go_meet
                  case rel => exact ⟨rfl, rfl⟩
                · skip
                  go_wp2_with fail
                  go_meet
                  case rel => exact ⟨rfl, rfl⟩
              · have kn : (o.n != 0) = true := by simpa using en
                have jn : Tn = Zn := by rw [hTn.out, kn]; cases Zn <;> rfl
                subst jn
                cases Tn
                · skip
                  go_wp2_with fail
                  go_meet
                  case rel => exact ⟨rfl, rfl⟩
                · skip
                  go_wp2_with fail
                  go_meet
                  case rel => exact ⟨rfl, rfl⟩
          · have kb : o.b.toList.isEmpty = false := by rw [Bool.eq_false_iff]; intro h; exact eb (List.isEmpty_iff.1 h)
            have jb : Tb = Zb := by rw [hTb.out, kb]; cases Zb <;> rfl
            subst jb
            cases Tb
            · skip
              by_cases en : o.n = 0
              · have kn : (o.n != 0) = false := by rw [en]; rfl
                have jn : Tn = false := by rw [hTn.out, kn]; cases Zn <;> rfl
                subst jn
                cases Zn
                · skip
                  go_wp2_with fail
                  go_meet
                  case rel => exact ⟨rfl, rfl⟩
                · skip
                  go_wp2_with fail
                  go_meet
                  case rel => exact ⟨rfl, rfl⟩
              · have kn : (o.n != 0) = true := by simpa using en
                have jn : Tn = Zn := by rw [hTn.out, kn]; cases Zn <;> rfl
                subst jn
                cases Tn
                · skip
                  go_wp2_with fail
                  go_meet
                  case rel => exact ⟨rfl, rfl⟩
                · skip
                  go_wp2_with fail
                  go_meet
                  case rel => exact ⟨rfl, rfl⟩
            · skip
              go_wp2_with fail
              go_meet
              case rel => exact ⟨rfl, rfl⟩
        · skip
          go_wp2_with fail
          go_meet
          case rel => exact ⟨rfl, rfl⟩
  case rest =>
    obtain ⟨rfl, rfl⟩ := hcut
    clear hTa hTb hTn uza uzb uzn
    obtain ⟨qA, hqA⟩ : ∃ q, (!ok || (Ta || (Tb || Tn))) = q := ⟨_, rfl⟩
    rw [hqA] at HR ⊢
    clear hqA
    cases qA
    · skip
      go_wp2_with fail
      refine (HFA.out _).mono ?_
      rintro e w3 ⟨rfl, hb3⟩
      have HB3 := hid (HB2.out.trans (hb3.mono HB2.out.size))
      have HKX3 := hid (HKX.out.later hb3)
      have HKY3 := hid (HKY.out.later hb3)
      clear hb3 x0 x1 x2 x3 y0 y1 y2 y3 HB2 HKX HKY
      obtain ⟨x0, x1, x2, x3, -⟩ := blk4o HKX3.out
      obtain ⟨y0, y1, y2, y3, -⟩ := blk4o HKY3.out
      obtain ⟨n1, hn1⟩ : ∃ q, (fa != 0) = q := ⟨_, rfl⟩
      rw [hn1] at HR
      cases n1
      · obtain ⟨q4, hq4⟩ : ∃ q, (o.kind == 4) = q := ⟨_, rfl⟩
        rw [hq4] at HR
        cases q4
        · skip
          go_wp2_with fail
          refine (HFB.out _).mono ?_
          rintro e w4 ⟨rfl, hb4⟩
          have HB4 := hid (HB3.out.trans (hb4.mono HB3.out.size))
          obtain ⟨x0, x1, x2, x3, -⟩ := blk4o (HKX3.out.later hb4)
          obtain ⟨y0, y1, y2, y3, -⟩ := blk4o (HKY3.out.later hb4)
          clear hb4
          obtain ⟨n2, hn2⟩ : ∃ q, (fb != 0) = q := ⟨_, rfl⟩
          rw [hn2] at HR
          cases n2
          · obtain ⟨q5, hq5⟩ : ∃ q, (sn == 4) = q := ⟨_, rfl⟩
            rw [hq5] at HR
            cases q5
            · skip
              go_wp2_with fail
              go_ret
              exact ⟨by rw [← HR.out]; rfl, HB4.out⟩
            · by_cases h6 : o.n < 100
              · rw [decide_eq_true h6] at HR
                go_wp2_with fail
                go_ret
                exact ⟨by rw [← HR.out]; rfl, HB4.out⟩
              · rw [decide_eq_false h6] at HR
                by_cases h7 : 599 < o.n
                · rw [decide_eq_true h7] at HR
                  go_wp2_with fail
                  go_ret
                  exact ⟨by rw [← HR.out]; rfl, HB4.out⟩
                · rw [decide_eq_false h7] at HR
                  go_wp2_with fail
                  go_ret
                  exact ⟨by rw [← HR.out]; rfl, HB4.out⟩
          · skip
            go_wp2_with fail
            go_ret
            exact ⟨by rw [← HR.out]; rfl, HB4.out⟩
        · go_wp2_with fail
          refine (HTR.out _).mono ?_
          rintro e w5 ⟨rfl, rfl⟩
          cases tr
          · skip
            go_wp2_with fail
            refine (HFB.out _).mono ?_
            rintro e w4 ⟨rfl, hb4⟩
            have HB4 := hid (HB3.out.trans (hb4.mono HB3.out.size))
            obtain ⟨x0, x1, x2, x3, -⟩ := blk4o (HKX3.out.later hb4)
            obtain ⟨y0, y1, y2, y3, -⟩ := blk4o (HKY3.out.later hb4)
            clear hb4
            obtain ⟨n2, hn2⟩ : ∃ q, (fb != 0) = q := ⟨_, rfl⟩
            rw [hn2] at HR
            cases n2
            · obtain ⟨q5, hq5⟩ : ∃ q, (sn == 4) = q := ⟨_, rfl⟩
              rw [hq5] at HR
              cases q5
              · skip
                go_wp2_with fail
                go_ret
                exact ⟨by rw [← HR.out]; rfl, HB4.out⟩
              · by_cases h6 : o.n < 100
                · rw [decide_eq_true h6] at HR
                  go_wp2_with fail
                  go_ret
                  exact ⟨by rw [← HR.out]; rfl, HB4.out⟩
                · rw [decide_eq_false h6] at HR
                  by_cases h7 : 599 < o.n
                  · rw [decide_eq_true h7] at HR
                    go_wp2_with fail
                    go_ret
                    exact ⟨by rw [← HR.out]; rfl, HB4.out⟩
                  · rw [decide_eq_false h7] at HR
                    go_wp2_with fail
                    go_ret
                    exact ⟨by rw [← HR.out]; rfl, HB4.out⟩
            · skip
              go_wp2_with fail
              go_ret
              exact ⟨by rw [← HR.out]; rfl, HB4.out⟩
          · skip
            go_wp2_with fail
            go_ret
            exact ⟨by rw [← HR.out]; rfl, HB3.out⟩
      · skip
        go_wp2_with fail
        go_ret
        exact ⟨by rw [← HR.out]; rfl, HB3.out⟩
    · go_wp2_with fail
      go_ret
      exact ⟨by rw [← HR.out]; rfl, HB2.out⟩
end C35
end Go.Proofs.Ytahakgmfkplidaa
