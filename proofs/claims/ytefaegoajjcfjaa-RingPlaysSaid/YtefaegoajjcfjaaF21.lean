/- Walks of layer 21 (ring), continued: the reference's New and Put, Texts; no condition. -/
import Derived.Test.YtefaegoajjcfjaaE21
namespace Go.Proofs.Ytefaegoajjcfjaa
open Go.RowKit Go.Peri
namespace C21

set_option maxRecDepth 100000 in
theorem rnew_any (room : Int) (w : World) :
    Calls Try.prog 27 #[.int .i64 room] w fun e w' => e = .returned (.agg #[.int .i64 (roomOf room), .slice none 0 0, .int .i64 0]) ∧ Below w.heap.size w w' := by
  by_cases h1 : (64 : Int) < room
  · have hr : Hid (roomOf room = 64) := by show _ = _; unfold roomOf; omega
    go_enter Try.func27, Try.ntmps27
    go_wp2_with fail
    go_returns
    exact ⟨by rw [hr.out]; rfl, by go_grown⟩
  · by_cases h2 : (0 : Int) < room
    · obtain ⟨k, rfl⟩ := Int.eq_ofNat_of_zero_le (show 0 ≤ room by omega)
      have hr : Hid (roomOf k = k) := by show _ = _; unfold roomOf; omega
      go_enter Try.func27, Try.ntmps27
      go_wp2_with fail
      go_returns
      exact ⟨by rw [hr.out], by go_grown⟩
    · have hr : Hid (roomOf room = 0) := by show _ = _; unfold roomOf; omega
      go_enter Try.func27, Try.ntmps27
      go_wp2_with fail
      go_returns
      exact ⟨by rw [hr.out]; rfl, by go_grown⟩

theorem oneCell_strs (ls : List ByteArray) : ∀ u ∈ strs ls, u.oneCell' = true := by
  intro u hu
  obtain ⟨s, _, rfl⟩ := List.mem_map.1 hu
  rfl

/-- A ref ring's value. -/
def RefIs (p : Nat → Prop) (w : World) (v : Value) (n : Nat) (ls : List ByteArray) (l : Int) : Prop :=
  ∃ lv, v = .agg #[.int .i64 n, lv, .int .i64 l] ∧ Vals p w lv (strs ls)

def RPutQ (w : World) (n : Nat) (st : List ByteArray × Int) (v : Value) (w' : World) : Prop := Below w.heap.size w w' ∧ RefIs (fun b => w.heap.size ≤ b ∧ b < w'.heap.size) w' v n st.1 st.2

set_option maxRecDepth 100000 in
set_option maxHeartbeats 2000000 in
theorem rput_any {p : Nat → Prop} (v : Value) (n : Nat) (s : ByteArray) (ls : List ByteArray) (l : Int) (w : World) (hv : RefIs p w v n ls l) (hn : n ≤ 64) (hls : ls.length ≤ 64) (h0 : 0 ≤ l) (h1 : l ≤ 1099511627776) (hp : ∀ b, p b → b < w.heap.size) :
    Calls Try.prog 29 #[v, .string s] w (Ret (RPutQ w n (Ring.put n (ls, l) s))) := by
  obtain ⟨lv, rfl, hlv⟩ := hv
  have HV := hid hlv
  have HP := hid hp
  clear hlv hp
  go_enter Try.func29, Try.ntmps29
  have hsl : (strs ls).length = ls.length := by simp [strs]
  have HSL := hid hsl
  clear hsl
  go_wp2_with (at_builtin; refine wpList_pushCells elem34 rfl _ _ rfl (w.heap.size + 2) _ 0 [] rfl (World.ownsRow_nil _ _ _ _) rfl ((HV.out.cellz).below (B := w.heap.size) ?_ HP.out) (oneCell_strs _) ?_ ?_ ?_ ?_)
  · go_grown
  · rw [HSL.out]; unfold maxLen; omega
  · rw [HSL.out]; omega
  · simp
  intro v1 w1 hown1 hb1
  have hk1 : Blk w1 w.heap.size #[.int .i64 n, lv, .int .i64 l] 36 := ((Blk.new _ _ _).alloc _).below hb1 (by omega)
  have hk2 : Blk w1 (w.heap.size + 1) #[.int .i64 0, .slice none 0 0, .int .i64 0] 36 := (Blk.new' _ _ _ (by simp)).below hb1 (by omega)
  have hw1 : w.heap.size + 2 ≤ w1.heap.size := by have := hb1.size; simpa using this
  have hbw : Below w.heap.size w w1 := Below.trans (by go_grown) (hb1.mono (by omega))
  have HO1 := hid hown1
  have HK1 := hid hk1
  have HK2 := hid hk2
  have HBW := hid hbw
  clear hb1 hown1 hk1 hk2 hbw
  go_wp2_with (at_builtin; refine wpList_push elem34 rfl _ _ rfl (w.heap.size + 2) _ _ _ [.string s] rfl HO1.out rfl rfl rfl (by simp [Value.oneCell']) ?_ ?_ hw1 ?_)
  · rw [HSL.out]; unfold maxLen; omega
  · rw [HSL.out]; omega
  intro v2 w2 hown2 hb2
  have hk1 := HK1.out.below hb2 (by omega)
  have hk2 := HK2.out.below hb2 (by omega)
  have hw2 : w.heap.size + 2 ≤ w2.heap.size := Nat.le_trans hw1 hb2.size
  have hbw := HBW.out.trans (hb2.mono (by omega))
  obtain ⟨hcl, a2, cap2, hv2, hc2, hm2, hnn, hcell0⟩ := Cellz.of_owns hown2
  obtain ⟨b, off, rfl, hb, hcell⟩ := hcell0.resolve_left (by omega)
  clear hcell0 hnn
  rw [HSL.out] at hv2 hc2
  subst hv2
  have d0 : w2.cell? ⟨w.heap.size, 0, none⟩ = some (.int .i64 n) := hk1.cell 0
  have d1 : w2.cell? ⟨w.heap.size, 1, none⟩ = some lv := hk1.cell 1
  have d2 : w2.cell? ⟨w.heap.size, 2, none⟩ = some (.int .i64 l) := hk1.cell 2
  have f1 := hk1.free 1
  have f2 := hk1.free 2
  have e0 : w2.cell? ⟨w.heap.size + 1, 0, none⟩ = some (.int .i64 0) := hk2.cell 0
  have e1 : w2.cell? ⟨w.heap.size + 1, 1, none⟩ = some (.slice none 0 0) := hk2.cell 1
  have e2 : w2.cell? ⟨w.heap.size + 1, 2, none⟩ = some (.int .i64 0) := hk2.cell 2
  have g0 := hk2.free 0
  have g1 := hk2.free 1
  have g2 := hk2.free 2
  have hxs : strs ls ++ [.string s] = strs (ls ++ [s]) := by simp [strs]
  have hll : (strs (ls ++ [s])).length = ls.length + 1 := by simp [strs]
  have fin : ∀ (W' : World) (lv' : Value) (ls' : List ByteArray) (l' : Int), Only [w.heap.size, w.heap.size + 1] w2 W' → Vals (fun b' => b' = b) w2 lv' (strs ls') →
      RPutQ w n (ls', l') (.agg #[.int .i64 n, lv', .int .i64 l']) W' := by
    intro W' lv' ls' l' ho hv
    refine ⟨hbw.trans (ho.below (by omega) (by simp)), lv', rfl, ?_⟩
    refine (hv.only ho ?_).imp ?_
    · rintro b' rfl; exact ⟨by omega, by simp; omega⟩
    · rintro b' rfl; exact ⟨by omega, Nat.lt_of_lt_of_le hb.2 ho.size⟩
  have vfull : Vals (fun b' => b' = b) w2 (.slice (some ⟨b, off, none⟩) (ls.length + 1) cap2) (strs (ls ++ [s])) :=
    ⟨_, cap2, by rw [hll], by rw [hll]; exact hc2, hm2, by simp, .inr ⟨b, off, rfl, rfl, by rw [← hxs]; exact hcell⟩⟩
  have vdrop : ∀ a', (cap2 ≠ 1 → a' = ⟨b, off + 1, none⟩) → Vals (fun b' => b' = b) w2 (.slice (some a') ls.length (cap2 - 1)) (strs ((ls ++ [s]).drop 1)) := by
    intro a' ha'
    have hl1 : (strs ((ls ++ [s]).drop 1)).length = ls.length := by simp [strs]
    refine ⟨_, cap2 - 1, by rw [hl1], by rw [hl1]; omega, by omega, by simp, ?_⟩
    by_cases hc1 : ls.length = 0
    · left; exact List.length_eq_zero_iff.1 (by rw [hl1]; exact hc1)
    · refine .inr ⟨b, off + 1, by rw [ha' (by omega)], rfl, fun i hi => ?_⟩
      rw [hl1] at hi
      have := hcell (i + 1) (by rw [hxs, hll]; omega)
      rw [hxs] at this
      rw [show off + 1 + i = off + (i + 1) by omega, this]
      simp only [strs, List.map_drop, List.getD, List.getElem?_drop]
      rw [show 1 + i = i + 1 by omega]
  have FIN := hid fin
  have VF := hid vfull
  have VD := hid vdrop
  have hbsz := hb.2
  unfold maxLen at hm2
  clear hcell hb hbw hk1 hk2 hown2 hb2 fin vfull vdrop hxs hll hcl
  by_cases hfull : n < ls.length + 1
  · by_cases hmx : 1099511627776 < l + 1
    · have hp' : Hid (Ring.put n (ls, l) s = ((ls ++ [s]).drop 1, 1099511627776)) := by
        show _ = _; unfold Ring.put; rw [if_pos (by simpa using hfull)]; congr 1; simp only []; omega
      by_cases hcap : cap2 = 1
      · obtain rfl : ls = [] := List.length_eq_zero_iff.1 (by omega)
        subst hcap
        go_wp2_with fail
        refine bodyPost_ret (by simp [results, Try.results29, go_sem, e0, e1, e2]; try rfl) rfl ?_
        refine ⟨_, rfl, ?_⟩
        rw [hp'.out]
        refine FIN.out _ _ _ _ ?_ ?_
        · repeat (first | exact Only.refl _ _ | refine Only.drew ?_ | refine Only.setCell ?_ (by simp) _)
        · exact VD.out ⟨b, off, none⟩ (fun h => absurd rfl h)
      · go_wp2_with fail
        refine bodyPost_ret (by simp [results, Try.results29, go_sem, e0, e1, e2]; try rfl) rfl ?_
        refine ⟨_, rfl, ?_⟩
        rw [hp'.out]
        refine FIN.out _ _ _ _ ?_ (VD.out _ (fun _ => rfl))
        repeat (first | exact Only.refl _ _ | refine Only.drew ?_ | refine Only.setCell ?_ (by simp) _)
    · have hp' : Hid (Ring.put n (ls, l) s = ((ls ++ [s]).drop 1, l + 1)) := by
        show _ = _; unfold Ring.put; rw [if_pos (by simpa using hfull)]; congr 1; simp only []; omega
      by_cases hcap : cap2 = 1
      · obtain rfl : ls = [] := List.length_eq_zero_iff.1 (by omega)
        subst hcap
        go_wp2_with fail
        refine bodyPost_ret (by simp [results, Try.results29, go_sem, e0, e1, e2]; try rfl) rfl ?_
        refine ⟨_, rfl, ?_⟩
        rw [hp'.out]
        refine FIN.out _ _ _ _ ?_ ?_
        · repeat (first | exact Only.refl _ _ | refine Only.drew ?_ | refine Only.setCell ?_ (by simp) _)
        · exact VD.out ⟨b, off, none⟩ (fun h => absurd rfl h)
      · go_wp2_with fail
        refine bodyPost_ret (by simp [results, Try.results29, go_sem, e0, e1, e2]; try rfl) rfl ?_
        refine ⟨_, rfl, ?_⟩
        rw [hp'.out]
        refine FIN.out _ _ _ _ ?_ (VD.out _ (fun _ => rfl))
        repeat (first | exact Only.refl _ _ | refine Only.drew ?_ | refine Only.setCell ?_ (by simp) _)
  · have hp' : Hid (Ring.put n (ls, l) s = (ls ++ [s], l)) := by
      show _ = _; unfold Ring.put; rw [if_neg (by simpa using hfull)]
    go_wp2_with fail
    refine bodyPost_ret (by simp [results, Try.results29, go_sem, e0, e1, e2]; try rfl) rfl ?_
    refine ⟨_, rfl, ?_⟩
    rw [hp'.out]
    refine FIN.out _ _ _ _ ?_ VF.out
    repeat (first | exact Only.refl _ _ | refine Only.drew ?_ | refine Only.setCell ?_ (by simp) _)

theorem bytes_ne {x y : ByteArray} (h : x ≠ y) : (x.toList == y.toList) = false := by
  refine beq_eq_false_iff_ne.2 fun e => h ?_
  rw [ByteArray.toList_eq, ByteArray.toList_eq] at e
  exact ByteArray.ext (Array.toList_inj.1 e)

set_option maxRecDepth 100000 in
theorem texts_any {p q : Nat → Prop} (a b : Value) (xs ys : List ByteArray) (w : World) (ha : Vals p w a (strs xs)) (hb : Vals q w b (strs ys)) (hpa : ∀ b, p b → b < w.heap.size) (hpb : ∀ b, q b → b < w.heap.size) :
    Calls Try.prog 30 #[a, b] w fun e w' => e = .returned (.bool (decide (xs = ys))) ∧ Below w.heap.size w w' := by
  obtain ⟨aa, ca, rfl, ha1, ha2, _, ha3⟩ := ha
  obtain ⟨bb, cb, rfl, hb1, hb2, _, hb3⟩ := hb
  simp only [strs, List.length_map] at ha1 ha3 hb1 hb3 ⊢
  unfold maxLen at ha2 hb2
  have HA := hid ha3
  have HB := hid hb3
  have HPA := hid hpa
  have HPB := hid hpb
  clear ha3 hb3 hpa hpb
  by_cases hl : xs.length = ys.length
  · have hl0 : Hid (xs.length = ys.length) := hl
    have hne : ((xs.length : Int) != (ys.length : Int)) = false := by simp [hl]
    go_enter Try.func30, Try.ntmps30
    go_wp2_with fail
    go_loopw [5] (fun i wr => ∃ k : Nat, k ≤ xs.length ∧ i = .int .i64 k ∧ Below w.heap.size w wr ∧ xs.take k = ys.take k) (fun i _ => xs.length - (intOf i).toNat)
    case atStart => exact ⟨0, Nat.zero_le _, rfl, Below.refl _ _, by simp⟩
    case round =>
      obtain ⟨k, hk, rfl, hb, htk⟩ := hrel
      have HT := hid htk
      have HBW := hid hb
      clear hb htk
      by_cases hlt : k < xs.length
      · obtain ⟨b1, o1, rfl, _, g1⟩ := HA.out.resolve_left (by intro e; rw [List.map_eq_nil_iff] at e; rw [e] at hlt; simp at hlt)
        obtain ⟨b2, o2, rfl, _, g2⟩ := HB.out.resolve_left (by intro e; rw [List.map_eq_nil_iff] at e; rw [e] at hl; rw [hl] at hlt; simp at hlt)
        have hly : k < ys.length := by omega
        have x1 : wr.cell? ⟨b1, o1 + k, none⟩ = some (.string (xs.getD k ByteArray.empty)) := by
          rw [HBW.out.cell (p := ⟨b1, o1 + k, none⟩) (HPA.out _ ‹_›), g1 k (by simpa using hlt)]; simp [List.getD, hlt]
        have x2 : wr.cell? ⟨b2, o2 + k, none⟩ = some (.string (ys.getD k ByteArray.empty)) := by
          rw [HBW.out.cell (p := ⟨b2, o2 + k, none⟩) (HPB.out _ ‹_›), g2 k (by simpa using hly)]; simp [List.getD, hly]
        have hk1 : (k : Int) < (xs.length : Int) := by omega
        have hk2 : (k : Int) < (ys.length : Int) := by omega
        have HE : Hid (xs.take (k + 1) = xs.take k ++ [xs.getD k ByteArray.empty] ∧ ys.take (k + 1) = ys.take k ++ [ys.getD k ByteArray.empty]) := by
          refine ⟨?_, ?_⟩
          · rw [List.take_succ_eq_append_getElem hlt]; simp [List.getD, hlt]
          · rw [List.take_succ_eq_append_getElem hly]; simp [List.getD, hly]
        have HD : Hid (xs.getD k ByteArray.empty ≠ ys.getD k ByteArray.empty → decide (xs = ys) = false) := by
          intro hne; simp; intro e; exact hne (by rw [e])
        generalize xs.getD k ByteArray.empty = x at x1 HE HD
        generalize ys.getD k ByteArray.empty = y at x2 HE HD
        clear g1 g2
        by_cases hxy : x = y
        · subst hxy
          have tt : (x.toList == x.toList) = true := by simp
          go_wp2_with fail
          go_quiet (fail)
          go_wp2_with fail
          go_roundw
          case rel => exact ⟨k + 1, by omega, by go_num, (HBW.out.trans (by exact ⟨rfl, rfl, rfl, Nat.le_refl _, fun _ _ => rfl⟩)), by rw [HE.out.1, HE.out.2, HT.out]⟩
          case measure => simp [intOf]; omega
        · have tt : (x.toList == y.toList) = false := bytes_ne hxy
          have hdd := hid (HD.out hxy)
          clear hxy
          go_wp2_with fail
          go_quiet (fail)
          go_wp2_with fail
          go_ret
          exact ⟨by rw [hdd.out]; rfl, (HBW.out.trans (by exact ⟨rfl, rfl, rfl, Nat.le_refl _, fun _ _ => rfl⟩))⟩
      · obtain rfl : k = xs.length := by omega
        have hd : Hid (decide (xs = ys) = true) := by
          have := HT.out
          rw [List.take_length, hl0.out, List.take_length] at this
          show _ = _; simpa using this
        go_wp2_with fail
        go_ret
        exact ⟨by rw [hd.out]; rfl, HBW.out⟩
  · have hd : Hid (decide (xs = ys) = false) := by show _ = _; simp; intro e; exact hl (by rw [e])
    have hne : ((xs.length : Int) != (ys.length : Int)) = true := by simp; omega
    go_enter Try.func30, Try.ntmps30
    go_wp2_with fail
    go_ret
    exact ⟨by rw [hd.out]; rfl, Below.refl _ _⟩
end C21
end Go.Proofs.Ytefaegoajjcfjaa
