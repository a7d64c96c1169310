/- Walks of layer 35 (graph): the law GraphMore; no condition. -/
import Derived.Test.YtahakgmfkplidaaX35
namespace Go.Peri
open Go.RowKit
theorem service_of_arg {w : World} {B : Nat} {v : Value} (h : Arg w B Sv.ty v) : ∃ m : Sv, v = .agg #[.string m.name, .slice m.pa m.hs.length m.pcap] ∧ m.Wf w B := by
  obtain ⟨cs, rfl, h⟩ : ∃ cs, v = .agg cs ∧ Rd w B Sv.ty cs.toList := h
  obtain ⟨m, e, hm⟩ := Sv.of_rd h
  refine ⟨m, ?_, hm⟩
  congr 1
  apply Array.toList_inj.1
  rw [e]
  rfl
theorem Sv.one (l : List Sv) : ∀ u ∈ l.flatMap Sv.enc, u.oneCell' = true := by
  intro u hu
  obtain ⟨o, _, ho⟩ := List.mem_flatMap.1 hu
  simp only [Sv.enc, List.mem_cons, List.not_mem_nil, or_false] at ho
  rcases ho with rfl | rfl <;> rfl
end Go.Peri
namespace Go.Proofs.Ytahakgmfkplidaa
open Go.RowKit Go.Peri
namespace C35
theorem elemV : Elem Try.prog 22 39 2 40 := Elem.mk' (z := .agg #[.string ByteArray.empty, .slice none 0 0]) Try.underlying22 (by kernel_rfl) rfl (by decide)
theorem one_row {w : World} {g : Nat} {m : Sv} (h : Blk w g #[.string m.name, .slice m.pa m.hs.length m.pcap] 39) : RowsOf (· < w.heap.size) Sv.enc 2 w (.slice (some ⟨g, 0, none⟩) 1 1) [m] :=
  (rows_of_blk (enc := Sv.enc) (l := [m]) Sv.enc_length h rfl (by show 1 ≤ _; unfold maxLen; decide)).imp (fun b hb => by rw [hb]; exact h.lt)
theorem SOk.imp {p q : Nat → Prop} {w : World} {x : Sv} (h : SOk p w x) (hpq : ∀ b, p b → q b) : SOk q w x := ⟨h.name, h.rows.imp hpq, h.len, fun y hy => ⟨(h.hs y hy).path, (h.hs y hy).rows.imp hpq, (h.hs y hy).len, (h.hs y hy).ops⟩⟩
set_option maxRecDepth 100000 in
set_option maxHeartbeats 8000000 in
theorem more_walk (v : Value) (l : List Sv) (m : Sv) (path : ByteArray) (W : World) (h : RowsOf (· < W.heap.size) Sv.enc 2 W v l) (hl : l.length * 40 ≤ 140737488351232) (hw : ∀ x ∈ l, x.Wf W W.heap.size) (hm : m.Wf W W.heap.size) :
    Calls Try.prog 5 #[v, .agg #[.string m.name, .slice m.pa m.hs.length m.pcap], .string path] W fun e w' => e = .returned (.bool true) ∧ Below W.heap.size W w' := by
  have hlt : ∀ {w : World}, Below W.heap.size W w → ∀ b, b < W.heap.size → b < w.heap.size := fun hb b h => Nat.lt_of_lt_of_le h hb.size
  have hk : ∀ x ∈ l, SOk (· < W.heap.size) W x := fun x hx => sok_of_wf (hw x hx)
  have hkm : SOk (· < W.heap.size) W m := sok_of_wf hm
  obtain ⟨fw, hfw⟩ : ∃ q, Sv.few l = q := ⟨_, rfl⟩
  obtain ⟨fm, hfm⟩ : ∃ q, Sv.few [m] = q := ⟨_, rfl⟩
  obtain ⟨nr, hnr⟩ : ∃ q, nodeR l m.name = q := ⟨_, rfl⟩
  have XF : Hid (∀ w, Below W.heap.size W w → _) := hid (fun w hb => gfew_any v l fw w (h.below hb (fun _ h => h)) (hlt hb) (by omega) (fun x hx => (hk x hx).below hb (fun _ h => h)) hfw)
  have XM : Hid (∀ w, Below W.heap.size W w → Calls Try.prog 6 #[.slice (some ⟨w.heap.size, 0, none⟩) 1 1] (w.alloc (.cells #[.string m.name, .slice m.pa m.hs.length m.pcap] 39)) fun e w' => e = .returned (.bool fm) ∧ Below (w.alloc (.cells #[.string m.name, .slice m.pa m.hs.length m.pcap] 39)).heap.size (w.alloc (.cells #[.string m.name, .slice m.pa m.hs.length m.pcap] 39)) w') := hid (fun w hb => by
    have ha := hb.alloc hb.size (.cells #[.string m.name, .slice m.pa m.hs.length m.pcap] 39)
    exact gfew_any _ [m] fm _ (one_row (Blk.new _ _ _)) (fun _ h => h) (by show 1 ≤ _; decide) (fun x hx => by
      rw [List.mem_singleton] at hx
      subst hx
      exact (hkm.below ha (fun _ h => h)).imp (fun b hb' => Nat.lt_of_lt_of_le hb' ha.size)) hfm)
  have XN : Hid (∀ w, Below W.heap.size W w → _) := hid (fun w hb => node_any v l m.name nr w (h.below hb (fun _ h => h)) (hlt hb) (by omega) hnr)
  have XK := hid known_any
  have HFW := hid hfw
  have HFM := hid hfm
  have HNR := hid hnr
  have HK := hid hk
  have HKM := hid hkm
  have HV := hid h
  obtain ⟨a, cap, rfl, hlc, hcm, _, hcell⟩ := h
  have HCE := hid hcell
  clear hk hkm hfw hfm hnr hw hm hcell
  obtain ⟨name, hname⟩ : ∃ q, q = m.name := ⟨_, rfl⟩
  obtain ⟨pa, hpa⟩ : ∃ q, q = m.pa := ⟨_, rfl⟩
  obtain ⟨mn, hmn⟩ : ∃ q, q = m.hs.length := ⟨_, rfl⟩
  obtain ⟨pc, hpc⟩ : ∃ q, q = m.pcap := ⟨_, rfl⟩
  rw [← hname, ← hpa, ← hmn, ← hpc] at XM ⊢
  rw [← hname] at XN
  have HME : Hid (m.enc = [.string name, .slice pa mn pc]) := hid (by rw [hname, hpa, hmn, hpc]; rfl)
  have HNM := hid hname
  clear hname hpa hmn hpc
  go_enter Try.func5, Try.ntmps5
  go_upto_region 1 with fail
  refine wp_genG ?_
  intro w0 hw0
  have hb0 : Below W.heap.size W w0 := by rw [hw0]; go_grown
  have hk0 : Blk w0 W.heap.size #[.string name, .slice pa mn pc] 39 := by rw [hw0]; exact Blk.new _ _ _
  clear hw0
  have HB0 := hid hb0
  have HK0 := hid hk0
  clear hb0 hk0
  go_wp2_with fail
  refine (XF.out _ HB0.out).mono ?_
  rintro e w1 ⟨rfl, hb1⟩
  have HB1 := hid (HB0.out.trans (hb1.mono HB0.out.size))
  have HK1 := hid (HK0.out.later hb1)
  clear hb1 XF HK0
  cases fw
  · go_wp2_with fail
    refine (XK.out _).mono ?_
    rintro e w2 ⟨rfl, hb2⟩
    have HB2 := hid (HB1.out.trans (hb2.mono HB1.out.size))
    clear hb2
    go_wp2_with fail
    go_ret
    exact ⟨rfl, HB2.out⟩
  obtain ⟨x0, x1⟩ := blk2o HK1.out
  go_wp2_with fail
  refine (XM.out _ HB1.out).mono ?_
  rintro e w2 ⟨rfl, hb2⟩
  have hb12 : Below w1.heap.size w1 w2 := ((Below.refl w1.heap.size w1).alloc (Nat.le_refl _) _).trans (hb2.mono (by simp))
  have HB2 := hid (HB1.out.trans (hb12.mono HB1.out.size))
  have HK2 := hid (HK1.out.later hb12)
  clear hb2 hb12 XM HK1 x0 x1
  cases fm
  · go_wp2_with fail
    refine (XK.out _).mono ?_
    rintro e w3 ⟨rfl, hb3⟩
    have HB3 := hid (HB2.out.trans (hb3.mono HB2.out.size))
    clear hb3
    go_wp2_with fail
    go_ret
    exact ⟨rfl, HB3.out⟩
  obtain ⟨x0, x1⟩ := blk2o HK2.out
  go_wp2_with fail
  refine (XN.out _ HB2.out).mono ?_
  rintro e w3 ⟨rfl, hb3⟩
  have HB3 := hid (HB2.out.trans (hb3.mono HB2.out.size))
  have HK3 := hid (HK2.out.later hb3)
  clear hb3 XN HK2 x0 x1
  by_cases hn1 : nr = -1
  case neg =>
    have hn2 : (nr != -1) = true := by simpa using hn1
    have hn3 : (nr == -1) = false := by simpa using hn1
    clear hn1
    go_wp2_with fail
    refine (XK.out _).mono ?_
    rintro e w4 ⟨rfl, hb4⟩
    have HB4 := hid (HB3.out.trans (hb4.mono HB3.out.size))
    clear hb4
    go_wp2_with fail
    go_ret
    exact ⟨rfl, HB4.out⟩
  subst hn1
  have hl20 := few_count HFW.out
  have HCZ : Hid (Cellz (· < W.heap.size) 2 w3 (.slice a l.length cap) l.length (l.flatMap Sv.enc)) := hid ((HV.out.below HB3.out (fun _ h => h)).cellz Sv.enc_length)
  go_wp2_with (at_builtin; refine wpList_pushCells elemV rfl _ _ rfl w3.heap.size _ 0 [] rfl (World.ownsRow_nil _ _ _ _) rfl HCZ.out (Sv.one _) ?_ ?_ ?_ ?_)
  · unfold maxLen; omega
  · omega
  · exact Nat.le_refl _
  intro v4 w4 hown4 hb4
  have HB4 := hid (HB3.out.trans (hb4.mono HB3.out.size))
  have HS4 := hid hb4
  have HK4 := hid (HK3.out.later hb4)
  have HO4 := hid hown4
  have hg3 := HK3.out.lt
  clear hown4 hb4 HCZ HK3
  obtain ⟨x0, x1⟩ := blk2o HK4.out
  have hsz4 := HS4.out.size
  go_wp2_with (at_builtin; refine wpList_push elemV rfl _ _ rfl w3.heap.size _ _ _ [.string name, .slice pa mn pc] rfl HO4.out rfl rfl rfl (by simp [Value.oneCell']) ?_ ?_ ?_ ?_)
  · unfold maxLen; omega
  · omega
  · omega
  intro v5 w5 hown5 hb5
  have HS5 := hid (HS4.out.trans hb5)
  have HB5 := hid (HB3.out.trans (HS5.out.mono HB3.out.size))
  have HK5 := hid (HK4.out.below hb5 hg3)
  have hown : w5.ownsRow w3.heap.size 39 2 v5 (l.length + 1) ((l ++ [m]).flatMap Sv.enc) := by
    rw [List.flatMap_append]
    simp only [List.flatMap_cons, List.flatMap_nil, HME.out]
    simpa using hown5
  obtain ⟨a5, c5, rfl⟩ := owns_form hown
  have HALL : Hid (RowsOf (· < w5.heap.size) Sv.enc 2 w5 (.slice a5 (l.length + 1) c5) (l ++ [m])) := hid (by
    have hr : RowsOf _ Sv.enc 2 w5 (.slice a5 (l.length + 1) c5) (l ++ [m]) := RowsOf.of_owns (enc := Sv.enc) Sv.enc_length (l := l ++ [m]) (e := 39) (base := w3.heap.size) (by simpa using hown)
    exact hr.imp (fun b hb => hb.2))
  have hlw : ∀ {w : World}, Below w5.heap.size w5 w → ∀ b, b < w5.heap.size → b < w.heap.size := fun hb b h => Nat.lt_of_lt_of_le h hb.size
  have hkA : ∀ x ∈ l ++ [m], SOk (· < w5.heap.size) w5 x := fun x hx => by
    rcases List.mem_append.1 hx with hx | hx
    · exact ((HK.out x hx).below HB5.out (fun _ h => h)).imp (hlt HB5.out)
    · rw [List.mem_singleton] at hx
      subst hx
      exact (HKM.out.below HB5.out (fun _ h => h)).imp (hlt HB5.out)
  have hkL : ∀ x ∈ l, SOk (· < w5.heap.size) w5 x := fun x hx => hkA x (List.mem_append_left _ hx)
  have hrL : RowsOf (· < w5.heap.size) Sv.enc 2 w5 (.slice a l.length cap) l := (HV.out.below HB5.out (fun _ h => h)).imp (hlt HB5.out)
  have hoL := few_ops HFW.out
  have hoA : ∀ x ∈ l ++ [m], ∀ y ∈ x.hs, y.ops.length ≤ 1000000 := fun x hx => by
    rcases List.mem_append.1 hx with hx | hx
    · exact hoL x hx
    · exact few_ops HFM.out x hx
  have hal : (l ++ [m]).length ≤ 10000000000000 := by simp; omega
  have YH : Hid (∀ w (j : Nat), Below w5.heap.size w5 w → _) := hid (fun w j hb => handler2_any (.slice a l.length cap) l (j : Int) w path _ (hrL.below hb (fun _ h => h)) (hlw hb) (by omega) (fun x hx => (hkL x hx).below hb (fun _ h => h)) hoL rfl)
  have YG : Hid (∀ w (j : Nat), Below w5.heap.size w5 w → j ≤ l.length → _) := hid (fun w j hb hj => handler2_any (.slice a5 (l.length + 1) c5) (l ++ [m]) (j : Int) w path _ (HALL.out.below hb (fun _ h => h)) (hlw hb) hal (fun x hx => (hkA x hx).below hb (fun _ h => h)) hoA (hand_more path (by omega)))
  have YA : Hid (∀ w (j : Nat), Below w5.heap.size w5 w → _) := hid (fun w j hb => name_any (.slice a l.length cap) l (j : Int) w _ (hrL.below hb (fun _ h => h)) (hlw hb) (by omega) rfl)
  have YB : Hid (∀ w (j : Nat), Below w5.heap.size w5 w → j ≤ l.length → _) := hid (fun w j hb hj => name_any (.slice a5 (l.length + 1) c5) (l ++ [m]) (j : Int) w _ (HALL.out.below hb (fun _ h => h)) (hlw hb) hal (name_more (by omega) (by omega)))
  have YN : Hid (∀ w (k : Nat) (hk : k < l.length), Below w5.heap.size w5 w → _) := hid (fun w k hk hb => node_any (.slice a l.length cap) l l[k].name _ w (hrL.below hb (fun _ h => h)) (hlw hb) (by omega) rfl)
  have YM : Hid (∀ w (k : Nat) (hk : k < l.length), Below w5.heap.size w5 w → _) := hid (fun w k hk hb => node_any (.slice a5 (l.length + 1) c5) (l ++ [m]) l[k].name _ w (HALL.out.below hb (fun _ h => h)) (hlw hb) hal (node_more hk))
  have YE : Hid (∀ w, Below w5.heap.size w5 w → _) := hid (fun w hb => node_any (.slice a5 (l.length + 1) c5) (l ++ [m]) name ((l.length : Int) + 1) w (HALL.out.below hb (fun _ h => h)) (hlw hb) hal (by rw [HNM.out]; exact node_last HNR.out))
  have YF : Hid (∀ w, Below w5.heap.size w5 w → _) := hid (fun w hb => name_any (.slice a5 (l.length + 1) c5) (l ++ [m]) ((l.length : Int) + 1) w name (HALL.out.below hb (fun _ h => h)) (hlw hb) hal (by rw [name_last]; exact HNM.out.symm))
  have HLEN : Hid (∀ j : Nat, (handR l (j : Int) path).1.length ≤ 1000000) := hid (fun j => handR_len hoL _ _)
  clear hown5 hb5 hown hkA hkL hrL hoA hoL hal hlt hlw HKM HK HFM HALL HME x0 x1 HO4 HK4 hsz4
  go_wp2_with fail
  go_loopw [8] (fun i wr => ∃ j : Nat, j ≤ l.length + 1 ∧ i = .int .i64 j ∧ Hid (Below w5.heap.size w5 wr)) (fun i _ => l.length + 1 - (intOf i).toNat)
  case atStart => exact ⟨0, Nat.zero_le _, rfl, hid (Below.refl _ _)⟩
  case round =>
    obtain ⟨j, hj, rfl, HR0⟩ := hrel
    by_cases hjl : j ≤ l.length
    · have X1 := hid (YH.out wr j HR0.out)
      have hlen := HLEN.out j
      have X2 := hid (fun w hb => YG.out w j hb hjl)
      have X3 := hid (fun w hb => YA.out w j hb)
      have X4 := hid (fun w hb => YB.out w j hb hjl)
      generalize handR l (j : Int) path = hr at X1 X2 hlen
      obtain ⟨ops, ok⟩ := hr
      generalize nameR l (j : Int) = nj at X3 X4
      have HLN := hid hlen
      clear hlen
      go_wp2_with fail
      refine X1.out.mono ?_
      rintro e w6 ⟨a6, m6, c6, rfl, hb6, HR6⟩
      have HB6 := hid (HR0.out.trans (hb6.mono HR0.out.size))
      clear hb6 X1
      go_wp2_with fail
      refine (X2.out _ HB6.out).mono ?_
      rintro e w7 ⟨a7, m7, c7, rfl, hb7, HR7⟩
      have HB7 := hid (HB6.out.trans (hb7.mono HB6.out.size))
      have XS := hid (reads_same (HR6.out.later hb7) HR7.out HLN.out)
      clear hb7 X2 HR6 HR7
      go_wp2_with fail
      refine (X3.out _ HB7.out).mono ?_
      rintro e w8 ⟨rfl, rfl⟩
      go_wp2_with fail
      refine (X4.out _ HB7.out).mono ?_
      rintro e w8 ⟨rfl, rfl⟩
      go_wp2_with fail
      refine XS.out.mono ?_
      rintro e w9 ⟨rfl, hb9⟩
      have HB9 := hid (HB7.out.trans (hb9.mono HB7.out.size))
      clear hb9 XS X3 X4
      obtain rfl | ⟨k, rfl⟩ : j = 0 ∨ ∃ k, j = k + 1 := by
        cases j with
        | zero => exact .inl rfl
        | succ k => exact .inr ⟨k, rfl⟩
      · go_wp2_with fail
        refine wp_region_bw (by kernel_rfl) (by kernel_rfl) ?_
        repeat (go_big_quiet_step (fail))
        refine wpQuiet_nil ?_
        rintro w10 ⟨⟨_, hb10⟩, rfl⟩
        have HBA := hid (HB9.out.trans (hb10.mono HB9.out.size))
        clear hb10
        go_wp2_with fail
        go_roundw
        case rel => exact ⟨1, by omega, by go_num, HBA⟩
        case measure => simp [intOf]
      · have hk : k < l.length := by omega
        obtain ⟨b, off, rfl, hpb, hc⟩ := HCE.out.resolve_left (by intro e; rw [e] at hk; simp at hk)
        have c0 := (HB5.out.trans (HB9.out.mono HB5.out.size)).cell (p := ⟨b, off + k * 2, none⟩) hpb |>.trans (Sv.cells (fun n u hu => hc k hk n u hu)).1
        have hbl : b < w9.heap.size := by have := HB5.out.size; have := HB9.out.size; omega
        have hwr : IntKind.i64.wrap ((k : Int) + 1 - 1) = (k : Int) := by rw [IntWalk.i64_in _ (by omega)]; omega
        have i1 : (0 : Int) ≤ (k : Int) := by omega
        have i2 : (k : Int) < (l.length : Int) := by omega
        have i3 : (0 : Int) < (k : Int) + 1 := by omega
        have XA : Hid (∀ x : BW w9, _) := hid (fun x => YN.out x.val k hk (HB9.out.trans (x.prop.mono HB9.out.size)))
        have XB : Hid (∀ x : BW w9, _) := hid (fun x => YM.out x.val k hk (HB9.out.trans (x.prop.mono HB9.out.size)))
        generalize l[k].name = nk at c0 XA XB
        generalize nodeR l nk = q at XA XB
        clear hc
        go_wp2_with fail
        refine wp_region_bw (by kernel_rfl) (by kernel_rfl) ?_
        repeat (go_big_quiet_step ((go_at_call 15; first | (with_reducible exact bw_call (XA.out _)) | (with_reducible exact bw_call (XB.out _)))))
        refine wpQuiet_nil ?_
        rintro w10 ⟨⟨_, hb10⟩, rfl⟩
        have HBA := hid (HB9.out.trans (hb10.mono HB9.out.size))
        clear hb10 c0 XA XB
        go_wp2_with fail
        go_roundw
        case rel => exact ⟨k + 2, by omega, by go_num, HBA⟩
        case measure => simp [intOf]; omega
    · obtain rfl : j = l.length + 1 := by omega
      obtain ⟨x0, x1⟩ := blk2o (HK5.out.later HR0.out)
      have hgl := (HK5.out.later HR0.out).lt
      have hwr : IntKind.i64.wrap ((l.length : Int) + 1) = (l.length : Int) + 1 := IntWalk.i64_in _ (by omega)
      have XA : Hid (∀ x : BW wr, _) := hid (fun x => YE.out x.val (HR0.out.trans (x.prop.mono HR0.out.size)))
      have XB : Hid (∀ x : BW wr, _) := hid (fun x => YF.out x.val (HR0.out.trans (x.prop.mono HR0.out.size)))
      have XC : Hid (∀ x : BW wr, _) := hid (fun x => known_any x.val)
      go_wp2_with fail
      refine wp_region_bw (by kernel_rfl) (by kernel_rfl) ?_
      repeat (go_big_quiet_step (first | (go_at_call 15; exact bw_call (XA.out _)) | (go_at_call 17; exact bw_same (XB.out _)) | (go_at_call 7; exact bw_call (XC.out _))))
      refine wpQuiet_nil ?_
      rintro w10 ⟨⟨_, hb10⟩, rfl⟩
      have HBA := hid (HR0.out.trans (hb10.mono HR0.out.size))
      clear hb10 x0 x1 XA XB XC
      go_wp2_with fail
      go_ret
      exact ⟨rfl, HB5.out.trans (HBA.out.mono HB5.out.size)⟩
end C35
end Go.Proofs.Ytahakgmfkplidaa
