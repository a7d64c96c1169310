/- Walks of layer 6 (ids): whether all that is drawn is unlike, by a map that counts; no condition. -/
import Derived.Test.YtnmfdkkdnaeikaaH06
import Derived.Maps.Own
import Derived.Maps.OwnOps
import Derived.Maps.OwnSet
import Derived.WalkKit
namespace Go.Proofs.Ytnmfdkkdnaeikaa
open Go.RowKit Go.Peri Go.Maps
namespace C06
open C01

theorem law22 : Keyed Try.prog 22 := int_keyed Try.underlying22
theorem zero3 (w : World) : (zeroValue 3).run Try.prog w = .ok (.int .i64 0) w := by kernel_rfl

def cnt : List Nat → Nat
  | [] => 0
  | x :: xs => if x ∈ xs then cnt xs else cnt xs + 1
def drawn (zs : List Nat) : Nat → List Nat
  | 0 => [0]
  | k + 1 => atR zs k :: drawn zs k
theorem mem_drawn (zs : List Nat) (x : Nat) : ∀ k, x ∈ drawn zs k ↔ x = 0 ∨ ∃ j : Nat, j < k ∧ atR zs j = x
  | 0 => by simp [drawn]
  | k + 1 => by
    rw [drawn, List.mem_cons, mem_drawn zs x k]
    constructor
    · rintro (rfl | h | ⟨j, hj, e⟩)
      · exact .inr ⟨k, by omega, rfl⟩
      · exact .inl h
      · exact .inr ⟨j, by omega, e⟩
    · rintro (h | ⟨j, hj, e⟩)
      · exact .inr (.inl h)
      · rcases Nat.lt_succ_iff_lt_or_eq.1 hj with hj | rfl
        · exact .inr (.inr ⟨j, hj, e⟩)
        · exact .inl e.symm
theorem cnt_le (zs : List Nat) : ∀ k, cnt (drawn zs k) ≤ k + 1
  | 0 => by simp [drawn, cnt]
  | k + 1 => by
    have := cnt_le zs k
    rw [drawn, cnt]; split <;> omega
theorem cnt_drawn (zs : List Nat) : ∀ k, cnt (drawn zs k) = k + 1 ↔ ∀ i : Nat, i < k → goodAt zs i
  | 0 => by simp [drawn, cnt]
  | k + 1 => by
    have h1 := cnt_le zs k
    have ih := cnt_drawn zs k
    have hm := mem_drawn zs (atR zs k) k
    have hg : goodAt zs k ↔ ¬ atR zs k ∈ drawn zs k := by
      rw [hm]
      constructor
      · rintro ⟨h0, hu⟩ (h | ⟨j, hj, e⟩)
        · exact h0 h
        · exact hu j hj e
      · intro h
        exact ⟨fun e => h (.inl e), fun j hj e => h (.inr ⟨j, hj, e⟩)⟩
    rw [drawn, cnt]
    constructor
    · intro h
      have hn : ¬ atR zs k ∈ drawn zs k := fun hc => by rw [if_pos hc] at h; omega
      rw [if_neg hn] at h
      intro i hi
      rcases Nat.lt_succ_iff_lt_or_eq.1 hi with hi | rfl
      · exact ih.1 (by omega) i hi
      · exact hg.2 hn
    · intro h
      rw [if_neg (hg.1 (h k (by omega))), ih.2 (fun i hi => h i (by omega))]
theorem atR_lt (zs : List Nat) (hz : ∀ z ∈ zs, z < 18446744073709551616) (k : Nat) (hk : k < 9223372036854775808) : atR zs k < 18446744073709551616 := by
  unfold atR
  split
  · rename_i h
    have hk' : k < zs.length := by omega
    rw [Int.toNat_natCast]
    have : zs.getD k 0 = zs[k] := by simp [hk']
    rw [this]; exact hz _ (List.getElem_mem hk')
  · rw [Int.toNat_natCast]; omega

abbrev Ky (x : Nat) : Lit := .int .u64 (x : Int)
def MapQ (B : Nat) (ks : List Nat) (n : Nat) (wr : World) : Prop := ∃ D : DataW Unit, wr.ownsMap Try.prog 22 (plainElem Try.prog 3) B n D ∧ (∀ x : Nat, Maps.has D (Ky x) = decide (x ∈ ks)) ∧ Maps.size D = cnt ks
theorem step_map {B n : Nat} {ks : List Nat} {w : World} {D : DataW Unit} (hown : w.ownsMap Try.prog 22 (plainElem Try.prog 3) B n D) (hh : ∀ x : Nat, Maps.has D (Ky x) = decide (x ∈ ks)) (hs : Maps.size D = cnt ks)
    (r : Nat) (d : DataW Unit) {w1 : World} (hown1 : w1.ownsMap Try.prog 22 (plainElem Try.prog 3) B (n + 1) (D.put (Ky r) d)) : MapQ B (r :: ks) (n + 1) w1 := by
  refine ⟨_, hown1, fun x => ?_, ?_⟩
  · by_cases hx : x = r
    · subst hx
      rw [has_put_same hown.isMap (by simp [WideAt.IsKeyLit])]; simp
    · rw [has_put_other (by simpa [Ky] using fun e => hx (by omega)), hh]
      simp [hx]
  · rw [size_put (hown.tidy law22), hh, hs, cnt]
    by_cases hm : r ∈ ks <;> simp [hm]
theorem wf_u64 (r : Nat) (h : r < 18446744073709551616) : (Lit.int .u64 (r : Int)).wf = true := by
  have : IntKind.u64.min ≤ (r : Int) ∧ (r : Int) ≤ IntKind.u64.max := by
    have e1 : IntKind.u64.min = 0 := rfl
    have e2 : IntKind.u64.max = 18446744073709551615 := rfl
    omega
  simpa [Lit.wf] using this

set_option maxRecDepth 100000 in
set_option maxHeartbeats 4000000 in
theorem dist_mid (v : Value) (zs : List Nat) (m : Nat) (W : World) (h : IsVals W.heap.size W v (natVals zs)) (hz : Hid (∀ z ∈ zs, z < 18446744073709551616)) (h4 : m ≤ 4096) :
    Calls Try.prog 64 #[v, .int .i64 m] W fun e w' => e = .returned (.bool (distR zs m)) ∧ Below W.heap.size W w' := by
  have hmm := @run_makeMap Try.prog
  have HV := hid h
  clear h
  have hd : distR zs m = decide (cnt (drawn zs m) = m + 1) := by
    unfold distR
    rw [if_pos (by omega)]
    by_cases hc : cnt (drawn zs m) = m + 1
    · rw [decide_eq_true hc, decide_eq_true_eq]
      exact fun i hi => (cnt_drawn zs m).1 hc i (by omega)
    · rw [decide_eq_false hc, decide_eq_false_iff_not]
      exact fun hall => hc ((cnt_drawn zs m).2 fun i hi => hall i (by omega))
  have HD := hid hd
  clear hd
  have m0 := World.ownsMap_made (H := Unit) W Try.prog 22 (plainElem Try.prog 3)
  have e0 : Maps.size (.map [] : DataW Unit) = cnt [] := rfl
  have h0 : ∀ x : Nat, Maps.has (.map [] : DataW Unit) (Ky x) = decide (x ∈ ([] : List Nat)) := fun x => by simp [has_eq]
  obtain ⟨w1, hrun, hown1, hg1⟩ := m0.update law22 Try.underlying137 (by unfold maxLen; omega) (key := .int .u64 0) (kl := Ky 0) (keyOf_int_mk Try.underlying22 (wf_u64 0 (by omega))) (plainElem_int Try.underlying3 (a := 0) (by decide))
  have hq1 := step_map m0 h0 e0 0 _ hown1
  have HQ1 := hid hq1
  have hb1 : Below W.heap.size W w1 := ((Below.refl _ _).alloc (Nat.le_refl _) _).grown hg1 (by simp) (fun j hj => by cases hj; exact Nat.le_refl _)
  have HB1 := hid hb1
  clear m0 e0 h0 hown1 hg1 hq1 hb1
  go_enter Try.func64, Try.ntmps64
  go_wp2_with fail
  go_loopw [12, 6] (fun x _ wr => ∃ k : Nat, x = .int .i64 k ∧ k ≤ m ∧ MapQ W.heap.size (drawn zs k) (k + 1) wr ∧ Below W.heap.size W wr) (fun x _ _ => 5000 - (intOf x).toNat)
  case atStart => exact ⟨0, rfl, Nat.zero_le _, HQ1.out, HB1.out⟩
  case round =>
    obtain ⟨k, rfl, hk, ⟨D, hown, hh, hs⟩, hb⟩ := hrel
    have HH := hid hh
    have HS := hid hs
    have HB := hid hb
    have HO := hid hown
    clear hh hs hb hown
    by_cases hlt : k < m
    · obtain ⟨r, hr⟩ : ∃ r, atR zs k = r := ⟨_, rfl⟩
      have hrl : r < 18446744073709551616 := by rw [← hr]; exact atR_lt zs hz.out k (by omega)
      have htx := at_any v zs k wr (HV.out.below HB.out) (by omega)
      rw [hr] at htx
      have HT := hid htx
      have HR := hid hr
      have hkey : keyOf Try.prog 22 (.int .u64 (r : Int)) = some (Ky r) := keyOf_int_mk Try.underlying22 (wf_u64 r hrl)
      have HK := hid hkey
      clear htx hr hkey
      go_wp2_with (first
        | (go_at_call 62; refine HT.out.mono ?_; rintro e w2 ⟨rfl, rfl⟩)
        | (at_lookup; refine wpList_lookup_own_int _ rfl _ _ 137 rfl 22 3 .i64 law22 Try.underlying137 Try.underlying3 (zero3 _) W.heap.size (k + 1) D rfl HO.out _ _ rfl HK.out ?_; intro c hat hwc)
        | (at_mapUpdate; refine wpList_mapUpdate_own _ rfl _ _ _ 137 rfl 22 3 law22 Try.underlying137 _ W.heap.size (k + 1) D rfl HO.out (by unfold maxLen; omega) _ _ _ rfl rfl HK.out _ [] (plainElem_int Try.underlying3 (wrap64_wf _)) ?_; intro w3 hown3 hgrow3))
      go_roundw
      case rel =>
        refine ⟨k + 1, by go_num, by omega, ?_, HB.out.grown hgrow3 HB.out.size (fun j hj => by cases hj; exact Nat.le_refl _)⟩
        show MapQ _ (atR zs k :: drawn zs k) _ _
        rw [HR.out]
        exact step_map HO.out HH.out HS.out r _ hown3
      case measure => simp [intOf]; omega
    · obtain rfl : k = m := by omega
      have hlen := HO.out.len Try.underlying137 3
      have HF : Hid (((Maps.size D : Int) == (k : Int) + 1) = distR zs k) := by
        show _ = _
        rw [HD.out, HS.out]
        by_cases hc : cnt (drawn zs k) = k + 1
        · rw [decide_eq_true hc, beq_iff_eq, hc]; go_num
        · rw [decide_eq_false hc, beq_eq_false_iff_ne]; omega
      go_wp2_with fail
      go_ret
      exact ⟨ret_bool HF.out, HB.out⟩

set_option maxRecDepth 100000 in
set_option maxHeartbeats 4000000 in
theorem dist_neg (v : Value) (zs : List Nat) (n : Int) (W : World) (h : IsVals W.heap.size W v (natVals zs)) (_ : Hid (∀ z ∈ zs, z < 18446744073709551616)) (hn : -9223372036854775808 ≤ n) (h4 : n < 0) :
    Calls Try.prog 64 #[v, .int .i64 n] W fun e w' => e = .returned (.bool (distR zs n)) ∧ Below W.heap.size W w' := by
  have hmm := @run_makeMap Try.prog
  have HV := hid h
  clear h
  have hd : distR zs n = decide (cnt (drawn zs 0) = 0 + 1) := by
    unfold distR
    rw [if_pos (by omega)]
    by_cases hc : cnt (drawn zs 0) = 0 + 1
    · rw [decide_eq_true hc, decide_eq_true_eq]
      exact fun i hi => (cnt_drawn zs 0).1 hc i (by omega)
    · rw [decide_eq_false hc, decide_eq_false_iff_not]
      exact fun hall => hc ((cnt_drawn zs 0).2 fun i hi => hall i (by omega))
  have HD := hid hd
  clear hd
  have m0 := World.ownsMap_made (H := Unit) W Try.prog 22 (plainElem Try.prog 3)
  have e0 : Maps.size (.map [] : DataW Unit) = cnt [] := rfl
  have h0 : ∀ x : Nat, Maps.has (.map [] : DataW Unit) (Ky x) = decide (x ∈ ([] : List Nat)) := fun x => by simp [has_eq]
  obtain ⟨w1, hrun, hown1, hg1⟩ := m0.update law22 Try.underlying137 (by unfold maxLen; omega) (key := .int .u64 0) (kl := Ky 0) (keyOf_int_mk Try.underlying22 (wf_u64 0 (by omega))) (plainElem_int Try.underlying3 (a := 0) (by decide))
  have hq1 := step_map m0 h0 e0 0 _ hown1
  have HQ1 := hid hq1
  have hb1 : Below W.heap.size W w1 := ((Below.refl _ _).alloc (Nat.le_refl _) _).grown hg1 (by simp) (fun j hj => by cases hj; exact Nat.le_refl _)
  have HB1 := hid hb1
  clear m0 e0 h0 hown1 hg1 hq1 hb1
  go_enter Try.func64, Try.ntmps64
  go_wp2_with fail
  go_loopw [12, 6] (fun x _ wr => ∃ k : Nat, x = .int .i64 k ∧ k ≤ 0 ∧ MapQ W.heap.size (drawn zs k) (k + 1) wr ∧ Below W.heap.size W wr) (fun x _ _ => 5000 - (intOf x).toNat)
  case atStart => exact ⟨0, rfl, Nat.zero_le _, HQ1.out, HB1.out⟩
  case round =>
    obtain ⟨k, rfl, hk, ⟨D, hown, hh, hs⟩, hb⟩ := hrel
    have HH := hid hh
    have HS := hid hs
    have HB := hid hb
    have HO := hid hown
    clear hh hs hb hown
    by_cases hlt : k < 0
    · exact absurd hlt (Nat.not_lt_zero k)
    · obtain rfl : k = 0 := by omega
      have hlen := HO.out.len Try.underlying137 3
      have HF : Hid (((Maps.size D : Int) == 0 + 1) = distR zs n) := by
        show _ = _
        rw [HD.out, HS.out]
        by_cases hc : cnt (drawn zs 0) = 0 + 1
        · rw [decide_eq_true hc, beq_iff_eq, hc]; go_num
        · rw [decide_eq_false hc, beq_eq_false_iff_ne]; omega
      go_wp2_with fail
      go_ret
      exact ⟨ret_bool HF.out, HB.out⟩

set_option maxRecDepth 100000 in
set_option maxHeartbeats 4000000 in
theorem dist_big (v : Value) (zs : List Nat) (n : Int) (W : World) (h : IsVals W.heap.size W v (natVals zs)) (hz : Hid (∀ z ∈ zs, z < 18446744073709551616)) (h4 : 4096 < n) :
    Calls Try.prog 64 #[v, .int .i64 n] W fun e w' => e = .returned (.bool (distR zs n)) ∧ Below W.heap.size W w' := by
  have hmm := @run_makeMap Try.prog
  have HV := hid h
  clear h
  have hd : distR zs n = decide (cnt (drawn zs 4096) = 4096 + 1) := by
    unfold distR
    rw [if_neg (by omega)]
    by_cases hc : cnt (drawn zs 4096) = 4096 + 1
    · rw [decide_eq_true hc, decide_eq_true_eq]
      exact fun i hi => (cnt_drawn zs 4096).1 hc i (by omega)
    · rw [decide_eq_false hc, decide_eq_false_iff_not]
      exact fun hall => hc ((cnt_drawn zs 4096).2 fun i hi => hall i (by omega))
  have HD := hid hd
  clear hd
  have m0 := World.ownsMap_made (H := Unit) W Try.prog 22 (plainElem Try.prog 3)
  have e0 : Maps.size (.map [] : DataW Unit) = cnt [] := rfl
  have h0 : ∀ x : Nat, Maps.has (.map [] : DataW Unit) (Ky x) = decide (x ∈ ([] : List Nat)) := fun x => by simp [has_eq]
  obtain ⟨w1, hrun, hown1, hg1⟩ := m0.update law22 Try.underlying137 (by unfold maxLen; omega) (key := .int .u64 0) (kl := Ky 0) (keyOf_int_mk Try.underlying22 (wf_u64 0 (by omega))) (plainElem_int Try.underlying3 (a := 0) (by decide))
  have hq1 := step_map m0 h0 e0 0 _ hown1
  have HQ1 := hid hq1
  have hb1 : Below W.heap.size W w1 := ((Below.refl _ _).alloc (Nat.le_refl _) _).grown hg1 (by simp) (fun j hj => by cases hj; exact Nat.le_refl _)
  have HB1 := hid hb1
  clear m0 e0 h0 hown1 hg1 hq1 hb1
  have h5 : ¬ n < 0 := by omega
  go_enter Try.func64, Try.ntmps64
  go_wp2_with fail
  go_loopw [12, 6] (fun x _ wr => ∃ k : Nat, x = .int .i64 k ∧ k ≤ 4096 ∧ MapQ W.heap.size (drawn zs k) (k + 1) wr ∧ Below W.heap.size W wr) (fun x _ _ => 5000 - (intOf x).toNat)
  case atStart => exact ⟨0, rfl, Nat.zero_le _, HQ1.out, HB1.out⟩
  case round =>
    obtain ⟨k, rfl, hk, ⟨D, hown, hh, hs⟩, hb⟩ := hrel
    have HH := hid hh
    have HS := hid hs
    have HB := hid hb
    have HO := hid hown
    clear hh hs hb hown
    by_cases hlt : k < 4096
    · obtain ⟨r, hr⟩ : ∃ r, atR zs k = r := ⟨_, rfl⟩
      have hrl : r < 18446744073709551616 := by rw [← hr]; exact atR_lt zs hz.out k (by omega)
      have htx := at_any v zs k wr (HV.out.below HB.out) (by omega)
      rw [hr] at htx
      have HT := hid htx
      have HR := hid hr
      have hkey : keyOf Try.prog 22 (.int .u64 (r : Int)) = some (Ky r) := keyOf_int_mk Try.underlying22 (wf_u64 r hrl)
      have HK := hid hkey
      clear htx hr hkey
      go_wp2_with (first
        | (go_at_call 62; refine HT.out.mono ?_; rintro e w2 ⟨rfl, rfl⟩)
        | (at_lookup; refine wpList_lookup_own_int _ rfl _ _ 137 rfl 22 3 .i64 law22 Try.underlying137 Try.underlying3 (zero3 _) W.heap.size (k + 1) D rfl HO.out _ _ rfl HK.out ?_; intro c hat hwc)
        | (at_mapUpdate; refine wpList_mapUpdate_own _ rfl _ _ _ 137 rfl 22 3 law22 Try.underlying137 _ W.heap.size (k + 1) D rfl HO.out (by unfold maxLen; omega) _ _ _ rfl rfl HK.out _ [] (plainElem_int Try.underlying3 (wrap64_wf _)) ?_; intro w3 hown3 hgrow3))
      go_roundw
      case rel =>
        refine ⟨k + 1, by go_num, by omega, ?_, HB.out.grown hgrow3 HB.out.size (fun j hj => by cases hj; exact Nat.le_refl _)⟩
        show MapQ _ (atR zs k :: drawn zs k) _ _
        rw [HR.out]
        exact step_map HO.out HH.out HS.out r _ hown3
      case measure => simp [intOf]; omega
    · obtain rfl : k = 4096 := by omega
      have hlen := HO.out.len Try.underlying137 3
      have HF : Hid (((Maps.size D : Int) == 4096 + 1) = distR zs n) := by
        show _ = _
        rw [HD.out, HS.out]
        by_cases hc : cnt (drawn zs 4096) = 4096 + 1
        · rw [decide_eq_true hc, beq_iff_eq, hc]; go_num
        · rw [decide_eq_false hc, beq_eq_false_iff_ne]; omega
      go_wp2_with fail
      go_ret
      exact ⟨ret_bool HF.out, HB.out⟩

theorem dist_any (v : Value) (zs : List Nat) (n : Int) (W : World) (h : IsVals W.heap.size W v (natVals zs)) (hz : Hid (∀ z ∈ zs, z < 18446744073709551616)) (hn : -9223372036854775808 ≤ n) :
    Calls Try.prog 64 #[v, .int .i64 n] W fun e w' => e = .returned (.bool (distR zs n)) ∧ Below W.heap.size W w' := by
  by_cases h0 : n < 0
  · exact dist_neg v zs n W h hz hn h0
  by_cases h4 : 4096 < n
  · exact dist_big v zs n W h hz h4
  obtain ⟨m, rfl⟩ := Int.eq_ofNat_of_zero_le (show 0 ≤ n by omega)
  exact dist_mid v zs m W h hz (by omega)

end C06
end Go.Proofs.Ytnmfdkkdnaeikaa
