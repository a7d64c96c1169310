/- Walks of layer 21 (ring): the law on plays; no condition. -/
import Derived.Test.YtefaegoajjcfjaaM21
namespace Go.Proofs.Ytefaegoajjcfjaa
open Go.RowKit Go.Peri
namespace C21

theorem texts_same {p q : Nat → Prop} (a b : Value) (xs : List ByteArray) (w : World) (ha : Vals p w a (strs xs)) (hb : Vals q w b (strs xs)) (hpa : ∀ b, p b → b < w.heap.size) (hpb : ∀ b, q b → b < w.heap.size) :
    Calls Try.prog 30 #[a, b] w fun e w' => e = .returned (.bool true) ∧ Below w.heap.size w w' := by
  have := texts_any a b xs xs w ha hb hpa hpb
  rwa [show decide (xs = xs) = true from by simp] at this
def Grid (B : Nat) (w : World) (v : Value) (lls : List (List ByteArray)) : Prop :=
  ∃ vs : List Value, Vals (· < B) w v vs ∧ vs.length = lls.length ∧ ∀ i, i < lls.length → Vals (· < B) w (vs.getD i undef) (strs (lls.getD i []))

set_option maxRecDepth 100000 in
set_option maxHeartbeats 4000000 in
theorem plays_walk (room : Int) (v : Value) (lls : List (List ByteArray)) (w : World) (hv : Grid w.heap.size w v lls) :
    Calls Try.prog 6 #[.int .i64 room, v] w fun e w' => e = .returned (.bool true) ∧ Below w.heap.size w w' := by
  obtain ⟨vs, ⟨a, cap, rfl, h1, h2, -, hcell⟩, hvl, hin⟩ := hv
  rw [hvl] at h1 hcell ⊢
  have HC := hid hcell
  have HI := hid hin
  have HVL := hid hvl
  unfold maxLen at h2
  clear hcell hin hvl
  by_cases hlen : 40 < lls.length
  · go_enter Try.func6, Try.ntmps6
    go_wp2_with fail
    refine (known_any w).mono ?_
    rintro e w1 ⟨rfl, hb⟩
    go_wp2_with fail
    go_ret
    exact ⟨rfl, hb⟩
  go_enter Try.func6, Try.ntmps6
  go_wp2_with fail
  refine (new_any room w).mono ?_
  rintro e w1 ⟨va, rfl, g, gh, rfl, hb1, hga, hgha, hr1⟩
  have hw1 := hb1.size
  obtain ⟨n, hn⟩ : ∃ n, n = roomOf room := ⟨_, rfl⟩
  rw [← hn] at hr1
  have hn64 : n ≤ 64 := hr1.bounds.2.1
  have hla := hr1.lt
  have HR1 := hid hr1
  have HB1 := hid hb1
  have HN := hid hn
  clear hr1 hb1 hn
  go_wp2_with fail
  refine (rnew_any room w1).mono ?_
  rintro e w2 ⟨rfl, hb2⟩
  rw [← HN.out]
  have hw2 := hb2.size
  have HR2 := hid (HR1.out.below hb2)
  have HB2 := hid (HB1.out.trans (hb2.mono hw1))
  clear hb2
  go_wp2_with fail
  obtain ⟨gx, hgx⟩ : ∃ gx, gx = w2.heap.size := ⟨_, rfl⟩
  rw [← hgx]
  have hx0 : Blk (w2.alloc (.cells #[.int .i64 n, .slice none 0 0, .int .i64 0] 36)) gx #[.int .i64 n, .slice none 0 0, .int .i64 0] 36 := Blk.new' _ _ _ hgx
  have HX0 := hid hx0
  have hggx : g < gx ∧ gh < gx := by omega
  have hbgx : w.heap.size ≤ gx := by omega
  have hgxs : gx < (w2.alloc (.cells #[.int .i64 n, .slice none 0 0, .int .i64 0] 36)).heap.size := by simp; omega
  have HGX := hid hgx
  have HGS := hid hgxs
  clear hx0 hgx hgxs
  go_loopw [7] (fun i wr => ∃ k : Nat, k ≤ lls.length ∧ i = .int .i64 k ∧ Below w.heap.size w wr ∧ gx < wr.heap.size ∧
      RingIs wr g gh n (Ring.puts n ([], 0) (lls.take k).flatten).1 (Ring.puts n ([], 0) (lls.take k).flatten).2 ∧
      ∃ lv, Blk wr gx #[.int .i64 n, lv, .int .i64 (Ring.puts n ([], 0) (lls.take k).flatten).2] 36 ∧ Vals (fun b => b < wr.heap.size ∧ b ≠ g ∧ b ≠ gh ∧ b ≠ gx) wr lv (strs (Ring.puts n ([], 0) (lls.take k).flatten).1)) (fun i _ => lls.length - (intOf i).toNat)
  case atStart =>
    refine ⟨0, Nat.zero_le _, rfl, HB2.out.trans (by go_grown), HGS.out, HR2.out.below (by go_grown), _, HX0.out, Vals.nil _ _⟩
  case round =>
    obtain ⟨k, hk, rfl, hb, hsz, hr, lv, hx, hlv⟩ := hrel
    obtain ⟨wo, rfl⟩ : ∃ wo : World, wo = wr := ⟨_, rfl⟩
    by_cases hlt : k < lls.length
    · obtain ⟨b, off, rfl, hbw, hc⟩ := HC.out.resolve_left (by intro e; have := HVL.out; rw [e] at this; simp at this; omega)
      obtain ⟨ss, hss⟩ : ∃ ss, ss = lls.getD k [] := ⟨_, rfl⟩
      have hvk := HI.out k hlt
      rw [← hss] at hvk
      have hfl : (lls.take (k + 1)).flatten = (lls.take k).flatten ++ ss := by
        have e1 : ss = lls[k] := by rw [hss, List.getD, List.getElem?_eq_getElem hlt]; rfl
        rw [List.take_succ_eq_append_getElem hlt, e1, List.flatten_append]
        simp only [List.flatten_cons, List.flatten_nil, List.append_nil]
      have HFL := hid hfl
      have HSS := hid hss
      obtain ⟨ai, ci, hai, hi1, hi2, -, hicell⟩ := hvk
      have hsl : (strs ss).length = ss.length := by simp [strs]
      rw [hsl] at hai hi1 hicell
      have HVK := hid (HI.out k hlt)
      have HVK0 := hid hai
      have c0 : wo.cell? ⟨b, off + k, none⟩ = some (.slice ai ss.length ci) := by
        rw [hb.cell (p := ⟨b, off + k, none⟩) hbw, hc k hlt, hai]
      have HIC := hid hicell
      have HVV : Hid (Vals (· < w.heap.size) w (.slice ai ss.length ci) (strs ss)) := by
        have := HVK.out; rw [hai, ← hss] at this; exact this
      have HC0 := hid hc
      unfold maxLen at hi2
      have HB := hid hb
      have HR := hid hr
      have HX := hid hx
      have HLV := hid hlv
      have hwwo : w.heap.size ≤ wo.heap.size := hb.size
      generalize hT : (lls.take k).flatten = T at HR HX HLV HFL
      clear hT hfl hss hai hicell hsl HVK hc hb hr hx hlv
      by_cases h80 : 80 < ss.length
      · go_wp2_with fail
        refine (known_any _).mono ?_
        rintro e w3 ⟨rfl, hb3⟩
        go_wp2_with fail
        go_ret
        exact ⟨rfl, HB.out.trans (hb3.mono hwwo)⟩
      · go_wp2_with fail
        refine (puts_any g gh n _ ss _ _ _ HR.out (HVV.out.below HB.out (fun _ h => h)) ?_).mono ?_
        · intro b' hb'; exact ⟨by omega, by simp; omega⟩
        rintro e w3 ⟨rfl, ho3, hr3⟩
        have hw3 := ho3.size
        rw [← Ring.puts_append] at hr3
        have HR3 := hid hr3
        have HB3 := hid (HB.out.trans (ho3.below (B := w.heap.size) hwwo (by simp; omega)))
        have HX3 := hid (HX.out.only ho3 (by simp; omega))
        have HLV3 := hid ((HLV.out.only ho3 (fun b' hb' => ⟨hb'.1, by simp; omega⟩)).imp (q := fun b => b < w3.heap.size ∧ b ≠ g ∧ b ≠ gh ∧ b ≠ gx) (fun b' hb' => ⟨by omega, hb'.2⟩))
        clear hr3 ho3 c0
        go_wp2_with fail
        go_loopw [8] (fun i wr => ∃ j : Nat, j ≤ ss.length ∧ i = .int .i64 j ∧ Below w.heap.size w wr ∧ gx < wr.heap.size ∧
            RingIs wr g gh n (Ring.puts n ([], 0) (T ++ ss)).1 (Ring.puts n ([], 0) (T ++ ss)).2 ∧
            ∃ lv, Blk wr gx #[.int .i64 n, lv, .int .i64 (Ring.puts n ([], 0) (T ++ ss.take j)).2] 36 ∧ Vals (fun b => b < wr.heap.size ∧ b ≠ g ∧ b ≠ gh ∧ b ≠ gx) wr lv (strs (Ring.puts n ([], 0) (T ++ ss.take j)).1)) (fun i _ => ss.length - (intOf i).toNat)
        case atStart =>
          exact ⟨0, Nat.zero_le _, rfl, HB3.out, by omega, HR3.out, lv, by simpa using HX3.out, by simpa using HLV3.out⟩
        case round =>
          obtain ⟨j, hj, rfl, hb5, hsz5, hr5, lv5, hx5, hlv5⟩ := hrel
          obtain ⟨wi, rfl⟩ : ∃ wi : World, wi = wr := ⟨_, rfl⟩
          have c0 : wi.cell? ⟨b, off + k, none⟩ = some (.slice ai ss.length ci) := by
            have hbk := HC0.out k hlt
            rw [hb5.cell (p := ⟨b, off + k, none⟩) hbw, hbk]
            have hv0 := HVK0.out
            rw [hv0]
          have HB5 := hid hb5
          have HR5 := hid hr5
          have HX5 := hid hx5
          have HLV5 := hid hlv5
          have hlt5 : (k : Int) < (lls.length : Int) := by omega
          have hww5 : w.heap.size ≤ wi.heap.size := hb5.size
          have hpl := Ring.puts_len n (T ++ ss.take j) ([], 0) (by simp) (by simp) (by simp)
          obtain ⟨xls, hxls⟩ : ∃ x, x = (Ring.puts n ([], 0) (T ++ ss.take j)).1 := ⟨_, rfl⟩
          obtain ⟨xl, hxl⟩ : ∃ x, x = (Ring.puts n ([], 0) (T ++ ss.take j)).2 := ⟨_, rfl⟩
          rw [← hxls, ← hxl] at hpl
          rw [← hxl] at HX5
          rw [← hxls] at HLV5
          obtain ⟨hpl1, hpl2, hpl3⟩ := hpl
          clear hb5 hr5 hx5 hlv5
          by_cases hltj : j < ss.length
          · obtain ⟨b2, o2, rfl, hb2', hc2⟩ := HIC.out.resolve_left (by intro e; simp [strs] at e; rw [e] at hltj; simp at hltj)
            have c1 : wi.cell? ⟨b2, o2 + j, none⟩ = some (.string (ss.getD j ByteArray.empty)) := by
              rw [HB5.out.cell (p := ⟨b2, o2 + j, none⟩) hb2', hc2 j hltj]
              simp [strs, List.getD, hltj]
            have HS : Hid (Ring.puts n ([], 0) (T ++ ss.take (j + 1)) = Ring.put n (xls, xl) (ss.getD j ByteArray.empty)) := by
              show _ = _
              rw [List.take_succ_eq_append_getElem hltj, ← List.append_assoc, Ring.puts_snoc, hxls, hxl]
              simp [List.getD, hltj]
            generalize ss.getD j ByteArray.empty = s at c1 HS
            have d0 : wi.cell? ⟨gx, 0, none⟩ = some (.int .i64 n) := HX5.out.cell 0
            have d1 : wi.cell? ⟨gx, 1, none⟩ = some lv5 := HX5.out.cell 1
            have d2 : wi.cell? ⟨gx, 2, none⟩ = some (.int .i64 xl) := HX5.out.cell 2
            have hltj5 : (j : Int) < (ss.length : Int) := by omega
            clear hc2 hxls hxl
            go_wp2_with fail
            refine wp_region_still_tail 8 (by kernel_rfl) (by kernel_rfl) ?_
            simp only [List.take_succ_cons, List.take_zero, List.drop_succ_cons, List.drop_zero]
            repeat still_step
            refine wpStill_nil ?_
            change wpList _ _ _ _ _ wi.drew
            clear d0 d1 d2 c0 c1
            go_wp2_with fail
            refine (rput_any (p := fun b => b < wi.heap.size ∧ b ≠ g ∧ b ≠ gh ∧ b ≠ gx) _ n s xls xl wi.drew ⟨lv5, rfl, HLV5.out⟩ hn64 (by omega) hpl2 hpl3 (fun b hb => hb.1)).mono ?_
            rintro e w6 ⟨v6, rfl, hb6, lv6, rfl, hlv6⟩
            rw [← HS.out] at hlv6
            obtain ⟨a6, m6, c6, rfl⟩ : ∃ a6 m6 c6, lv6 = .slice a6 m6 c6 := by obtain ⟨a6, c6, h6, _⟩ := hlv6; exact ⟨_, _, _, h6⟩
            have hx6 := (HX5.out.drew).later hb6
            have hw6 : wi.heap.size ≤ w6.heap.size := hb6.size
            have d0 : w6.cell? ⟨gx, 0, none⟩ = some (.int .i64 n) := hx6.cell 0
            have d1 : w6.cell? ⟨gx, 1, none⟩ = some lv5 := hx6.cell 1
            have d2 : w6.cell? ⟨gx, 2, none⟩ = some (.int .i64 xl) := hx6.cell 2
            have f0 := hx6.free 0
            have f1 := hx6.free 1
            have f2 := hx6.free 2
            have HX6 := hid hx6
            have HLV6 := hid hlv6
            have HR6 := hid ((show RingIs wi.drew g gh n _ _ from HR5.out).below hb6)
            have HB6 : Hid (Below w.heap.size w w6) := (HB5.out.drew).trans (hb6.mono hww5)
            rw [← HS.out]
            obtain ⟨xl6, hxl6⟩ : ∃ x, x = (Ring.puts n ([], 0) (T ++ ss.take (j + 1))).2 := ⟨_, rfl⟩
            rw [← hxl6]
            have HXL6 := hid hxl6
            clear hb6 hlv6 hx6 hxl6
            go_wp2_with fail
            go_roundw
            case rel =>
              have hon : Only [gx] w6 (((w6.setCell ⟨gx, 0, none⟩ (.int .i64 n)).setCell ⟨gx, 1, none⟩ (.slice a6 m6 c6)).setCell ⟨gx, 2, none⟩ (.int .i64 xl6)) :=
                (((Only.refl _ _).setCell (p := ⟨gx, 0, none⟩) (by simp) _).setCell (p := ⟨gx, 1, none⟩) (by simp) _).setCell (p := ⟨gx, 2, none⟩) (by simp) _
              refine ⟨j + 1, by omega, by go_num, HB6.out.trans (hon.below (by omega) (by simp; omega)), Nat.lt_of_lt_of_le (by omega) hon.size, HR6.out.only hon (by simp; omega) (by simp; omega), .slice a6 m6 c6, ?_, ?_⟩
              · rw [← HXL6.out]; exact ((HX6.out.set 0 _).set 1 _).set 2 _
              · refine (HLV6.out.only hon (fun b' hb' => ?_)).imp (fun b' hb' => ?_)
                · have h1 := hb'.1; have h2 := hb'.2
                  have h3 : wi.heap.size ≤ b' := h1
                  exact ⟨h2, by simp; omega⟩
                · have h1 : wi.heap.size ≤ b' := hb'.1
                  exact ⟨Nat.lt_of_lt_of_le hb'.2 hon.size, by have := HR5.out.lt; omega, by have := HR5.out.lt; omega, by omega⟩
            case measure => simp [intOf]; omega
          · obtain rfl : j = ss.length := by omega
            have e1 : T ++ ss.take ss.length = T ++ ss := by rw [List.take_length]
            rw [e1] at hxls hxl
            obtain ⟨hR5a, hR5b⟩ : True ∧ True := ⟨trivial, trivial⟩
            have HR6 : Hid (RingIs wi g gh n xls xl) := by have := HR5.out; rw [← hxls, ← hxl] at this; exact this
            have HRD : Hid (RingIs wi.drew g gh n xls xl) := HR6.out
            have HXLS := hid hxls
            have HXL := hid hxl
            have hxll : (strs xls).length = xls.length := by simp [strs]
            have HXLL := hid hxll
            obtain ⟨xa, xc, rfl, -, -, -, -⟩ := HLV5.out
            rw [hxll] at HLV5 HX5
            have HLVD : Hid (Vals (fun b => b < wi.heap.size ∧ b ≠ g ∧ b ≠ gh ∧ b ≠ gx) wi.drew (.slice xa xls.length xc) (strs xls)) := HLV5.out
            have d1 : wi.cell? ⟨gx, 1, none⟩ = some (.slice xa xls.length xc) := HX5.out.cell 1
            have d2 : wi.cell? ⟨gx, 2, none⟩ = some (.int .i64 xl) := HX5.out.cell 2
            clear hxls hxl hxll e1 hR5a hR5b
            have hsz5' := hsz5
            go_wp2_with fail
            clear c0
            go_region_held3 (fun w' => w'.cell? ⟨gx, 1, none⟩ = some (.slice xa xls.length xc) ∧ w'.cell? ⟨gx, 2, none⟩ = some (.int .i64 xl))
              (first
                | go_keep
                | exact ⟨(hb7.cell (p := ⟨gx, 1, none⟩) hsz5').trans d1, (hb7.cell (p := ⟨gx, 2, none⟩) hsz5').trans d2⟩
                | exact ⟨(hb8.cell (p := ⟨gx, 1, none⟩) (Nat.lt_of_lt_of_le hsz5' hb7.size)).trans ((hb7.cell (p := ⟨gx, 1, none⟩) hsz5').trans d1), (hb8.cell (p := ⟨gx, 2, none⟩) (Nat.lt_of_lt_of_le hsz5' hb7.size)).trans ((hb7.cell (p := ⟨gx, 2, none⟩) hsz5').trans d2)⟩)
              (first
                | (go_at_call 31; refine (all_any g gh n _ _ _ HRD.out).mono ?_; rintro e w7 ⟨v7, rfl, hb7, hv7⟩)
                | (go_at_call 30; refine (texts_same v7 _ xls w7 hv7 (HLVD.out.below (w' := w7) (B := wi.drew.heap.size) hb7 (fun _ h => h.1)) (fun b hb => hb.2) (fun b hb => Nat.lt_of_lt_of_le hb.1 hb7.size)).mono ?_; rintro e w8 ⟨rfl, hb8⟩)
                | (go_at_call 32; refine (len_any g gh n _ _ _ ((HRD.out.below hb7).below hb8)).mono ?_; rintro e w' ⟨rfl, rfl⟩)
                | (go_at_call 33; refine (lost_any g gh n _ _ _ ((HRD.out.below hb7).below hb8)).mono ?_; rintro e w' ⟨rfl, rfl⟩))
            have hw7 : wi.heap.size ≤ w7.heap.size := hb7.size
            have hw8 := hb8.size
            have HR8 := hid ((HRD.out.below hb7).below hb8)
            have HB8 : Hid (Below w.heap.size w w8) := (HB5.out.drew.trans (hb7.mono hww5)).trans (hb8.mono (by omega))
            have HX8 := hid (((HX5.out.drew).later hb7).later hb8)
            have HV8 := hid ((HLVD.out.below (w' := w7) (B := wi.drew.heap.size) hb7 (fun _ h => h.1)).below (w' := w8) (B := w7.heap.size) hb8 (fun b' hb' => Nat.lt_of_lt_of_le hb'.1 hw7))
            clear hb7 hb8 hv7 d1 d2
            go_wp2_with fail
            go_roundw
            case rel =>
              refine ⟨k + 1, by omega, by go_num, HB8.out, by omega, ?_, .slice xa xls.length xc, ?_, ?_⟩
              · rw [HFL.out, ← HXLS.out, ← HXL.out]; exact HR8.out
              · rw [HFL.out, ← HXL.out]; exact HX8.out
              · rw [HFL.out, ← HXLS.out]; exact HV8.out.imp (fun b' hb' => ⟨by have := hb'.1; omega, hb'.2⟩)
            case measure => simp [intOf]; omega
    · obtain rfl : k = lls.length := by omega
      have HB := hid hb
      have hwwo : w.heap.size ≤ wo.heap.size := hb.size
      clear hb hr hx hlv
      go_wp2_with fail
      refine (known_any _).mono ?_
      rintro e w9 ⟨rfl, hb9⟩
      go_wp2_with fail
      go_ret
      exact ⟨rfl, HB.out.trans (hb9.mono hwwo)⟩
end C21
end Go.Proofs.Ytefaegoajjcfjaa
