/- Walks of layer 35 (graph): the document's check of services; no condition. -/
import Derived.Test.YtahakgmfkplidaaR35
namespace Go.Proofs.Ytahakgmfkplidaa
open Go.RowKit Go.Peri
namespace C35
set_option maxRecDepth 100000 in
set_option maxHeartbeats 8000000 in
theorem rgcheck_any {p : Nat → Prop} (v : Value) (l : List Sv) (r : Int) (W : World) (h : RowsOf p Sv.enc 2 W v l) (hp : ∀ b, p b → b < W.heap.size) (hl : l.length ≤ 10000000000000) (hk : ∀ x ∈ l, SOk p W x) (hr : gE l = r) :
    Calls Try.prog 9 #[v] W fun e w' => e = .returned (.int .i64 r) ∧ Below W.heap.size W w' := by
  obtain ⟨a, cap, rfl, hlc, hcm, _, hcell⟩ := h
  have HC := hid hcell
  have HP := hid hp
  have HK := hid hk
  have HRR := hid hr
  unfold gE at HRR
  clear hcell hp hk hr
  by_cases h7 : 7 < l.length
  · rw [if_pos h7] at HRR
    go_enter Try.func9, Try.ntmps9
    go_wp2_with fail
    go_ret
    exact ⟨by rw [← HRR.out]; rfl, Below.refl _ _⟩
  rw [if_neg h7] at HRR
  have HR : Hid (Gx.firstI (sE l) 0 (l.drop 0) = r) := hid (by have := HRR.out; simpa using this)
  clear HRR
  go_enter Try.func9, Try.ntmps9
  go_wp2_with fail
  go_loopw [3] (fun i wr => ∃ k : Nat, k ≤ l.length ∧ i = .int .i64 k ∧ Hid (Below W.heap.size W wr) ∧ Hid (Gx.firstI (sE l) k (l.drop k) = r)) (fun i _ => l.length - (intOf i).toNat)
  case atStart => exact ⟨0, Nat.zero_le _, rfl, hid (Below.refl _ _), HR⟩
  case round =>
    obtain ⟨i, hi, rfl, HB, HN⟩ := hrel
    obtain ⟨wo, rfl⟩ : ∃ wo : World, wo = wr := ⟨_, rfl⟩
    by_cases hlt : i < l.length
    · obtain ⟨b, off, rfl, hpb, hc⟩ := HC.out.resolve_left (by intro e; rw [e] at hlt; simp at hlt)
      have hbl := HP.out b hpb
      have hws := HB.out.size
      have HD := hid (Gx.firstI_drop (g := sE l) hlt)
      rw [HN.out] at HD
      have HPath : Hid (∀ j (hj : j < l.length) w', Below wo.heap.size wo w' → w'.cell? ⟨b, off + j * 2, none⟩ = some (.string l[j].name)) := hid (fun j hj w' hw' =>
        (Sv.cells (w := w') (b := b) (o := off + j * 2) (fun n u hu => ((HB.out.trans (hw'.mono hws)).cell (p := ⟨b, off + j * 2 + n, none⟩) hbl).trans (hc j hj n u hu))).1)
      have HOps : Hid (∀ w', Below wo.heap.size wo w' → w'.cell? ⟨b, off + i * 2 + 1, none⟩ = some (.slice l[i].pa l[i].hs.length l[i].pcap)) := hid (fun w' hw' =>
        (Sv.cells (w := w') (b := b) (o := off + i * 2) (fun n u hu => ((HB.out.trans (hw'.mono hws)).cell (p := ⟨b, off + i * 2 + n, none⟩) hbl).trans (hc i hlt n u hu))).2)
      have hki := HK.out l[i] (List.getElem_mem hlt)
      have hlen := hki.len
      have XA : Hid (∀ w', Below wo.heap.size wo w' → Calls Try.prog 23 #[.slice l[i].pa l[i].hs.length l[i].pcap] w' fun e w'' => e = .returned (.int .i64 (Gx.firstI (hE l[i].hs) 0 l[i].hs)) ∧ Below w'.heap.size w' w'') :=
        hid (fun w' hb' => rhandlers_any _ _ _ w' (hki.rows.below (HB.out.trans (hb'.mono hws)) HP.out) (fun b hb => Nat.lt_of_lt_of_le (HP.out b hb) (Nat.le_trans hws hb'.size)) hki.len (fun x hx => (hki.hs x hx).below (HB.out.trans (hb'.mono hws)) HP.out) rfl)
      obtain ⟨no, hno⟩ : ∃ q, Hd.nameOk l[i].name = q := ⟨_, rfl⟩
      have XP := hid (fun w' => C04.rname_any l[i].name w' hki.name)
      rw [show sE l i l[i] = if Hd.nameOk l[i].name = false then 7 else if gateB l[i].name = true then 7 else if Gx.dup Sv.name l i l[i].name = true then 10 else if 8 < l[i].hs.length then 8 else Gx.firstI (hE l[i].hs) 0 l[i].hs from rfl] at HD
      rw [hno] at XP HD
      have HDT : Hid (∀ k (_ : k < i), l[k]!.name = l[i].name → Gx.dup Sv.name l i l[i].name = true) := hid (fun k hk h => by
        have hkl : k < l.length := by omega
        rw [getElem!_pos l k hkl] at h
        exact Gx.dup_true hk hkl h)
      have HDF : Hid ((∀ k (_ : k < i), l[k]!.name ≠ l[i].name) → Gx.dup Sv.name l i l[i].name = false) := hid (fun h => Gx.dup_false hlt (fun j hj hjl => by
        have := h j hj
        rwa [getElem!_pos l j hjl] at this))
      have HPi := hid (HPath.out i hlt)
      obtain ⟨dp, hdp⟩ : ∃ q, Gx.dup Sv.name l i l[i].name = q := ⟨_, rfl⟩
      rw [hdp] at HD HDT HDF
      obtain ⟨ae, hae⟩ : ∃ q, Gx.firstI (hE l[i].hs) 0 l[i].hs = q := ⟨_, rfl⟩
      rw [hae] at XA HD
      obtain ⟨gb, hgb⟩ : ∃ q, gateB l[i].name = q := ⟨_, rfl⟩
      rw [hgb] at HD
      have g1 : (l[i].name.toList == [103, 97, 116, 101]) = gb := hgb
      obtain ⟨pi, hpi⟩ : ∃ q, l[i].name = q := ⟨_, rfl⟩
      rw [hpi] at XP HDT HDF HPi g1
      generalize l[i].pa = oa at HOps XA
      generalize l[i].hs.length = on at HOps XA HD hlen
      generalize l[i].pcap = oc at HOps XA
      clear hc hki hno hdp hae hpi hgb
      have c0 := HPi.out wo (Below.refl _ _)
      have hbo : b < wo.heap.size := by omega
      cases no
      · have HZ : Hid (r = 7) := hid (by have := HD.out; simpa using this)
        go_wp2_with fail
        refine (XP.out _).mono ?_
        rintro e w1 ⟨rfl, rfl⟩
        go_wp2_with fail
        go_ret
        exact ⟨by rw [HZ.out]; rfl, HB.out⟩
      cases gb
      case true =>
        have HZ : Hid (r = 7) := hid (by have := HD.out; simpa using this)
        go_wp2_with fail
        refine (XP.out _).mono ?_
        rintro e w1 ⟨rfl, rfl⟩
        go_wp2_with fail
        go_ret
        exact ⟨by rw [HZ.out]; rfl, HB.out⟩
      case false =>
        go_wp2_with fail
        refine (XP.out _).mono ?_
        rintro e w1 ⟨rfl, rfl⟩
        go_wp2_with fail
        clear g1
        go_loopw [4] (fun k w' => ∃ j : Nat, j ≤ i ∧ k = .int .i64 j ∧ Hid (Below wo.heap.size wo w') ∧ Hid (∀ m (_ : m < j), l[m]!.name ≠ pi)) (fun k _ => i - (intOf k).toNat)
        case atStart => exact ⟨0, Nat.zero_le _, rfl, hid (Below.refl _ _), hid (fun m hm => absurd hm (Nat.not_lt_zero _))⟩
        case round =>
          obtain ⟨j, hj, rfl, HB1, HNo⟩ := hrel
          have hbr : b < wr.heap.size := Nat.lt_of_lt_of_le hbo HB1.out.size
          have d0 := HPi.out wr HB1.out
          have i1 : (0 : Int) ≤ (i : Int) := by omega
          have i2 : (i : Int) < (l.length : Int) := by omega
          by_cases hji : j < i
          · have hjl : j < l.length := by omega
            have d1 := HPath.out j hjl wr HB1.out
            have i3 : (0 : Int) ≤ (j : Int) := by omega
            have i4 : (j : Int) < (l.length : Int) := by omega
            have hT := HDT.out j hji
            have HNx : Hid (l[j]!.name ≠ pi → ∀ m (_ : m < j + 1), l[m]!.name ≠ pi) := hid (fun h m hm => by
              by_cases e : m = j
              · subst e; exact h
              · exact HNo.out m (by omega))
            rw [getElem!_pos l j hjl] at hT HNx
            have HT := hid hT
            clear hT
            generalize l[j].name = pj at d1 HT HNx
            obtain ⟨bq, hbq⟩ : ∃ bq, decide (pj = pi) = bq := ⟨_, rfl⟩
            obtain ⟨s1, s2⟩ := strEq_of hbq
            have HX := hid hbq
            clear hbq
            cases bq
            · go_wp2_with fail
              refine wp_region_bw (by kernel_rfl) (by kernel_rfl) ?_
              repeat (go_big_quiet_step (fail))
              refine wpQuiet_nil ?_
              rintro w2 ⟨⟨_, hb2⟩, rfl⟩
              have HB2 := hid (HB1.out.trans (hb2.mono HB1.out.size))
              clear hb2
              go_wp2_with fail
              go_roundw
              case rel => exact ⟨j + 1, by omega, by go_num, HB2, hid (HNx.out (of_decide_eq_false HX.out))⟩
              case measure => simp [intOf]; omega
            · have HZ : Hid (r = 10) := hid (by have := HD.out; rw [HT.out (of_decide_eq_true HX.out)] at this; simpa using this)
              go_wp2_with fail
              refine wp_region_bw (by kernel_rfl) (by kernel_rfl) ?_
              repeat (go_big_quiet_step (fail))
              refine wpQuiet_nil ?_
              rintro w2 ⟨⟨_, hb2⟩, rfl⟩
              have HB2 := hid (HB.out.trans ((HB1.out.trans (hb2.mono HB1.out.size)).mono hws))
              clear hb2
              go_wp2_with fail
              go_ret
              exact ⟨by rw [HZ.out]; rfl, HB2.out⟩
          · obtain rfl : j = i := by omega
            have hdf := HDF.out HNo.out
            have HD2 : Hid (r = if ((if 8 < on then 8 else ae) != 0) = true then (if 8 < on then 8 else ae) else Gx.firstI (sE l) (j + 1) (l.drop (j + 1))) := hid (by have := HD.out; rw [hdf] at this; simpa using this)
            have d1 := HOps.out wr HB1.out
            clear hdf
            have HBR := hid (HB.out.trans (HB1.out.mono hws))
            by_cases h8 : 8 < on
            · have HZ : Hid (r = 8) := hid (by have := HD2.out; rw [if_pos h8] at this; simpa using this)
              go_wp2_with fail
              go_ret
              exact ⟨by rw [HZ.out]; rfl, HBR.out⟩
            rw [if_neg h8] at HD2
            go_wp2_with fail
            refine (XA.out _ HB1.out).mono ?_
            rintro e w2 ⟨rfl, hb2⟩
            have HB2 := hid (HB.out.trans ((HB1.out.trans (hb2.mono HB1.out.size)).mono hws))
            clear hb2 d1 d0
            obtain ⟨z, hz⟩ : ∃ z, (ae != 0) = z := ⟨_, rfl⟩
            rw [hz] at HD2
            cases z
            · have HN2 : Hid (Gx.firstI (sE l) (j + 1) (l.drop (j + 1)) = r) := hid (by have := HD2.out; rw [if_neg (by decide)] at this; exact this.symm)
              go_wp2_with fail
              go_roundw
              case rel => exact ⟨j + 1, by omega, by go_num, HB2, HN2⟩
              case measure => simp [intOf]; omega
            · have HN2 : Hid (r = ae) := hid (by have := HD2.out; rwa [if_pos rfl] at this)
              go_wp2_with fail
              go_ret
              exact ⟨by rw [HN2.out]; rfl, HB2.out⟩
    · obtain rfl : i = l.length := by omega
      have hz : r = 0 := by rw [← HN.out]; exact Gx.firstI_end
      have HZ := hid hz
      clear hz
      go_wp2_with fail
      go_ret
      exact ⟨by rw [HZ.out]; rfl, HB.out⟩
end C35
end Go.Proofs.Ytahakgmfkplidaa
