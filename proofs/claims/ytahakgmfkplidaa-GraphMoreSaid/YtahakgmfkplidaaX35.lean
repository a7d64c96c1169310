/- Walks of layer 35 (graph): the laws GraphChecks, GraphFinds; no condition. -/
import Derived.Test.YtahakgmfkplidaaP35b
namespace Go.Proofs.Ytahakgmfkplidaa
open Go.RowKit Go.Peri
namespace C35
set_option maxRecDepth 100000 in
set_option maxHeartbeats 4000000 in
theorem checks_walk (v : Value) (l : List Sv) (W : World) (h : RowsOf (· < W.heap.size) Sv.enc 2 W v l) (hl : l.length * 40 ≤ 140737488351232) (hw : ∀ x ∈ l, x.Wf W W.heap.size) :
    Calls Try.prog 3 #[v] W fun e w' => e = .returned (.bool true) ∧ Below W.heap.size W w' := by
  have hlt : ∀ {w : World}, Below W.heap.size W w → ∀ b, b < W.heap.size → b < w.heap.size := fun hb b h => Nat.lt_of_lt_of_le h hb.size
  have hk : ∀ x ∈ l, SOk (· < W.heap.size) W x := fun x hx => sok_of_wf (hw x hx)
  obtain ⟨fw, hfw⟩ : ∃ q, Sv.few l = q := ⟨_, rfl⟩
  obtain ⟨c, hc⟩ : ∃ q, gE l = q := ⟨_, rfl⟩
  have XF := hid (gfew_any v l fw W h (fun _ h => h) (by omega) hk hfw)
  have XC : Hid (∀ w, Below W.heap.size W w → _) := hid (fun w hb => gcheck_any v l c w (h.below hb (fun _ h => h)) (hlt hb) (by omega) (fun x hx => (hk x hx).below hb (fun _ h => h)) hc)
  have XR : Hid (∀ w, Below W.heap.size W w → _) := hid (fun w hb => rgcheck_any v l c w (h.below hb (fun _ h => h)) (hlt hb) (by omega) (fun x hx => (hk x hx).below hb (fun _ h => h)) hc)
  have XK := hid known_any
  have HFW := hid hfw
  have HV := hid h
  obtain ⟨a, cap, rfl, -⟩ := h
  clear hk hfw hc hw
  go_enter Try.func3, Try.ntmps3
  go_wp2_with fail
  refine XF.out.mono ?_
  rintro e w1 ⟨rfl, hb1⟩
  have HB1 := hid hb1
  clear hb1 XF
  cases fw
  · go_wp2_with fail
    refine (XK.out _).mono ?_
    rintro e w2 ⟨rfl, hb2⟩
    have HB2 := hid (HB1.out.trans (hb2.mono HB1.out.size))
    clear hb2
    go_wp2_with fail
    go_ret
    exact ⟨rfl, HB2.out⟩
  · have hl20 := few_count HFW.out
    have XN : Hid (∀ w, Below W.heap.size W w → _) := hid (fun w hb => names_any _ l w (HV.out.below hb (fun _ h => h)) (hlt hb) (by omega))
    have XM : Hid (∀ w, Below W.heap.size W w → _) := hid (fun w hb => rnames_any _ l w (HV.out.below hb (fun _ h => h)) (hlt hb) (by omega))
    have HL := hid hl20
    clear hl20
    go_wp2_with fail
    refine (XC.out _ HB1.out).mono ?_
    rintro e w2 ⟨rfl, hb2⟩
    have HB2 := hid (HB1.out.trans (hb2.mono HB1.out.size))
    clear hb2 XC
    go_wp2_with fail
    refine (XR.out _ HB2.out).mono ?_
    rintro e w3 ⟨rfl, hb3⟩
    have HB3 := hid (HB2.out.trans (hb3.mono HB2.out.size))
    clear hb3 XR
    go_wp2_with fail
    refine (XN.out _ HB3.out).mono ?_
    rintro e w4 ⟨a4, c4, rfl, hb4, HN4⟩
    have HB4 := hid (HB3.out.trans (hb4.mono HB3.out.size))
    clear hb4 XN
    go_wp2_with fail
    refine (XM.out _ HB4.out).mono ?_
    rintro e w5 ⟨a5, c5, rfl, hb5, HN5⟩
    have HB5 := hid (HB4.out.trans (hb5.mono HB4.out.size))
    have XT := hid (C04.texts_list _ _ _ w5 (HN4.out.later hb5) HN5.out (by have := HL.out; rw [List.length_map]; omega))
    clear hb5 XM HN4 HN5
    go_wp2_with fail
    refine XT.out.mono ?_
    rintro e w6 ⟨rfl, hb6⟩
    have HB6 := hid (HB5.out.trans (hb6.mono HB5.out.size))
    clear hb6 XT
    go_wp2_with fail
    refine (XK.out _).mono ?_
    rintro e w7 ⟨rfl, hb7⟩
    have HB7 := hid (HB6.out.trans (hb7.mono HB6.out.size))
    clear hb7
    go_wp2_with fail
    go_ret
    exact ⟨rfl, HB7.out⟩
theorem reads_same {a b : Option Addr} {n m c d : Nat} {l : List Opr} {w : World} (h : Reads Opr.enc 4 w (.slice a n c) l) (h2 : Reads Opr.enc 4 w (.slice b m d) l) (hl : l.length ≤ 1000000) :
    Calls Try.prog 19 #[.slice a n c, .slice b m d] w fun e w' => e = .returned (.bool true) ∧ Below w.heap.size w w' := by
  obtain ⟨p, hp, hr⟩ := h
  obtain ⟨q, hq, hr2⟩ := h2
  exact osame_any _ _ _ _ true w hr hp hr2 hq (by omega) (by omega) (decide_eq_true rfl)
set_option maxRecDepth 100000 in
set_option maxHeartbeats 8000000 in
theorem finds_walk (v : Value) (l : List Sv) (nm : ByteArray) (node : Int) (path : ByteArray) (W : World) (h : RowsOf (· < W.heap.size) Sv.enc 2 W v l) (hl : l.length * 40 ≤ 140737488351232) (hw : ∀ x ∈ l, x.Wf W W.heap.size) :
    Calls Try.prog 4 #[v, .string nm, .int .i64 node, .string path] W fun e w' => e = .returned (.bool true) ∧ Below W.heap.size W w' := by
  have hlt : ∀ {w : World}, Below W.heap.size W w → ∀ b, b < W.heap.size → b < w.heap.size := fun hb b h => Nat.lt_of_lt_of_le h hb.size
  have hk : ∀ x ∈ l, SOk (· < W.heap.size) W x := fun x hx => sok_of_wf (hw x hx)
  obtain ⟨fw, hfw⟩ : ∃ q, Sv.few l = q := ⟨_, rfl⟩
  obtain ⟨c, hc⟩ : ∃ q, gE l = q := ⟨_, rfl⟩
  obtain ⟨nr, hnr⟩ : ∃ q, nodeR l nm = q := ⟨_, rfl⟩
  obtain ⟨ns, hns⟩ : ∃ q, nameR l node = q := ⟨_, rfl⟩
  obtain ⟨n2, hn2⟩ : ∃ q, nodeR l ns = q := ⟨_, rfl⟩
  obtain ⟨ops, ok, hho⟩ : ∃ o k, handR l node path = (o, k) := ⟨_, _, rfl⟩
  have XF := hid (gfew_any v l fw W h (fun _ h => h) (by omega) hk hfw)
  have XC : Hid (∀ w, Below W.heap.size W w → _) := hid (fun w hb => gcheck_any v l c w (h.below hb (fun _ h => h)) (hlt hb) (by omega) (fun x hx => (hk x hx).below hb (fun _ h => h)) hc)
  have XN : Hid (∀ w, Below W.heap.size W w → _) := hid (fun w hb => node_any v l nm nr w (h.below hb (fun _ h => h)) (hlt hb) (by omega) hnr)
  have XRN : Hid (∀ w, Below W.heap.size W w → _) := hid (fun w hb => rnode_any v l nm nr w (h.below hb (fun _ h => h)) (hlt hb) (by omega) hnr)
  have XA : Hid (∀ w, Below W.heap.size W w → _) := hid (fun w hb => name_any v l node w ns (h.below hb (fun _ h => h)) (hlt hb) (by omega) hns)
  have XRA : Hid (∀ w, Below W.heap.size W w → _) := hid (fun w hb => rname_any v l node w ns (h.below hb (fun _ h => h)) (hlt hb) (by omega) hns)
  have XN2 : Hid (∀ w, Below W.heap.size W w → _) := hid (fun w hb => node_any v l ns n2 w (h.below hb (fun _ h => h)) (hlt hb) (by omega) hn2)
  have XRH : Hid (∀ w, Below W.heap.size W w → _) := hid (fun w hb => rhandler2_any v l node w path (ops, ok) (h.below hb (fun _ h => h)) (hlt hb) (by omega) (fun x hx => (hk x hx).below hb (fun _ h => h)) hho)
  have XHH : Hid (Sv.few l = true → ∀ w, Below W.heap.size W w → _) := hid (fun hf w hb => handler2_any v l node w path (ops, ok) (h.below hb (fun _ h => h)) (hlt hb) (by omega) (fun x hx => (hk x hx).below hb (fun _ h => h)) (few_ops hf) hho)
  have HLO : Hid (Sv.few l = true → ops.length ≤ 1000000) := hid (fun hf => by have := handR_len (few_ops hf) node path; rw [hho] at this; exact this)
  have HEQ : Hid (c = 0 → 1 ≤ node → node ≤ l.length → n2 = node) := hid (fun h0 h1 h2 => by rw [← hn2, ← hns]; exact node_name (by rw [hc]; exact h0) h1 h2)
  have XK := hid known_any
  have HFW := hid hfw
  obtain ⟨a, cap, rfl, -⟩ := h
  clear hk hfw hc hw hnr hns hn2 hho
  go_enter Try.func4, Try.ntmps4
  go_wp2_with fail
  refine XF.out.mono ?_
  rintro e w1 ⟨rfl, hb1⟩
  have HB1 := hid hb1
  clear hb1 XF
  cases fw
  · go_wp2_with fail
    refine (XK.out _).mono ?_
    rintro e w2 ⟨rfl, hb2⟩
    have HB2 := hid (HB1.out.trans (hb2.mono HB1.out.size))
    clear hb2
    go_wp2_with fail
    go_ret
    exact ⟨rfl, HB2.out⟩
  have XH := hid (XHH.out HFW.out)
  have HLP := hid (HLO.out HFW.out)
  clear XHH HLO
  go_wp2_with fail
  refine (XH.out _ HB1.out).mono ?_
  rintro e w2 ⟨a2, m2, c2, rfl, hb2, HR2⟩
  have HB2 := hid (HB1.out.trans (hb2.mono HB1.out.size))
  clear hb2 XH
  go_wp2_with fail
  refine (XRH.out _ HB2.out).mono ?_
  rintro e w3 ⟨a3, m3, c3, rfl, hb3, HR3⟩
  have HB3 := hid (HB2.out.trans (hb3.mono HB2.out.size))
  have XS := hid (fun w hb => reads_same ((HR2.out.later hb3).later hb) (HR3.out.later hb) HLP.out (w := w))
  clear hb3 XRH HR2 HR3
  go_wp2_with fail
  refine (XN.out _ HB3.out).mono ?_
  rintro e w4 ⟨rfl, hb4⟩
  have HB4 := hid (HB3.out.trans (hb4.mono HB3.out.size))
  have HS4 := hid hb4
  clear hb4 XN
  go_wp2_with fail
  refine (XRN.out _ HB4.out).mono ?_
  rintro e w5 ⟨rfl, hb5⟩
  have HB5 := hid (HB4.out.trans (hb5.mono HB4.out.size))
  have HS5 := hid (HS4.out.trans (hb5.mono HS4.out.size))
  clear hb5 XRN
  go_wp2_with fail
  refine (XA.out _ HB5.out).mono ?_
  rintro e w6 ⟨rfl, rfl⟩
  go_wp2_with fail
  refine (XRA.out _ HB5.out).mono ?_
  rintro e w6 ⟨rfl, rfl⟩
  go_wp2_with fail
  refine (XS.out _ HS5.out).mono ?_
  rintro e w6 ⟨rfl, hb6⟩
  have HB6 := hid (HB5.out.trans (hb6.mono HB5.out.size))
  clear hb6 XS
  go_wp2_with fail
  refine (XC.out _ HB6.out).mono ?_
  rintro e w7 ⟨rfl, hb7⟩
  have HB7 := hid (HB6.out.trans (hb7.mono HB6.out.size))
  clear hb7 XC
  by_cases h0 : c = 0
  · by_cases h1 : 1 ≤ node
    · by_cases h2 : node ≤ l.length
      · have he := HEQ.out h0 h1 h2
        rw [he] at XN2
        subst h0
        clear he HEQ
        go_wp2_with fail
        refine (XA.out _ HB7.out).mono ?_
        rintro e w8 ⟨rfl, rfl⟩
        go_wp2_with fail
        refine (XN2.out _ HB7.out).mono ?_
        rintro e w8 ⟨rfl, hb8⟩
        have HB8 := hid (HB7.out.trans (hb8.mono HB7.out.size))
        clear hb8
        go_wp2_with fail
        refine (XK.out _).mono ?_
        rintro e w9 ⟨rfl, hb9⟩
        have HB9 := hid (HB8.out.trans (hb9.mono HB8.out.size))
        clear hb9
        go_wp2_with fail
        go_ret
        exact ⟨rfl, HB9.out⟩
      · subst h0
        go_wp2_with fail
        refine (XK.out _).mono ?_
        rintro e w9 ⟨rfl, hb9⟩
        have HB9 := hid (HB7.out.trans (hb9.mono HB7.out.size))
        clear hb9
        go_wp2_with fail
        go_ret
        exact ⟨rfl, HB9.out⟩
    · subst h0
      go_wp2_with fail
      refine (XK.out _).mono ?_
      rintro e w9 ⟨rfl, hb9⟩
      have HB9 := hid (HB7.out.trans (hb9.mono HB7.out.size))
      clear hb9
      go_wp2_with fail
      go_ret
      exact ⟨rfl, HB9.out⟩
  · have hz : (c == 0) = false := by simpa using h0
    clear h0
    go_wp2_with fail
    refine (XK.out _).mono ?_
    rintro e w9 ⟨rfl, hb9⟩
    have HB9 := hid (HB7.out.trans (hb9.mono HB7.out.size))
    clear hb9
    go_wp2_with fail
    go_ret
    exact ⟨rfl, HB9.out⟩
end C35
end Go.Proofs.Ytahakgmfkplidaa
