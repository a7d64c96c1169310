/- Walks of layer 3 (crc): a machine makes its table once; no condition. -/
import Derived.Test.YthmopkaecbebpaaK03
import Derived.Test.YthmopkaecbebpaaA21
namespace Go.Peri
open Go.RowKit
/-- Lists of strings, one in each cell. -/
theorem strss_of_arg {w : World} {B : Nat} {v : Value} (h : Arg w B (.slice 24 (.slice 16 .str)) v) : ∃ vs : List Value, Vals (· < B) w v vs ∧ ∀ i, i < vs.length → ∃ ss : List ByteArray, Vals (· < B) w (vs.getD i undef) (ss.map Value.string) := by
  obtain ⟨vs, h1, _, h2⟩ := ones_of_arg (e := .slice 16 .str) rfl h
  refine ⟨vs, h1, fun i hi => ?_⟩
  obtain ⟨ss, h3, _⟩ := strs_of_rd (h2 i hi)
  exact ⟨ss, h3⟩
end Go.Peri
namespace Go.Proofs.Ythmopkaecbebpaa
open Go.RowKit Go.Peri
namespace C03
set_option maxRecDepth 100000 in
set_option maxHeartbeats 4000000 in
theorem machine_walk (v : Value) (vs : List Value) (W : World) (hv : Vals (· < W.heap.size) W v vs) (hw : ∀ i, i < vs.length → ∃ ss : List ByteArray, Vals (· < W.heap.size) W (vs.getD i undef) (ss.map Value.string)) :
    Calls Try.prog 14 #[v] W fun e w' => e = .returned (.bool true) ∧ Below W.heap.size W w' := by
  obtain ⟨a, cap, rfl, h2, h3, h4, h5⟩ := hv
  have HK : Hid (∀ w, Calls Try.prog 54 #[] w fun e w' => e = .returned (.bool true) ∧ Below w.heap.size w w') := hid known_any
  have HV := hid h5
  have HW := hid hw
  clear h5 hw h2 h3 h4
  by_cases h40 : 40 < vs.length
  · go_enter Try.func14, Try.ntmps14
    go_wp2_with fail
    refine (HK.out _).mono ?_
    rintro e w' ⟨rfl, hb⟩
    have HB := hid hb
    clear hb
    go_wp2_with fail
    go_ret
    exact ⟨rfl, HB.out⟩
  go_enter Try.func14, Try.ntmps14
  go_wp2_with fail
  refine (new_any _).mono ?_
  rintro e w1 ⟨rfl, hb1, hl1, hm1⟩
  have HB1 := hid hb1
  have HM1 := hid hm1
  clear hb1 hm1 hl1
  go_wp2_with fail
  go_loopw [5, 6] (fun y i wr => ∃ k c : Nat, k ≤ vs.length ∧ i = .int .i64 k ∧ y = .int .i64 c ∧ c ≤ k * 6000 ∧ Below W.heap.size W wr ∧ (Mach wr W.heap.size 0 0 0 c (fun _ => 0) ∨ Mach wr W.heap.size 1 0 1 c Crc.step)) (fun _ i _ => vs.length - (intOf i).toNat)
  case atStart => exact ⟨0, 0, Nat.zero_le _, rfl, rfl, Nat.zero_le _, HB1.out, .inl HM1.out⟩
  case round =>
    clear HB1 HM1
    obtain ⟨k, c, hk, rfl, rfl, hck, hb, hm⟩ := hrel
    have HB := hid hb
    have HM := hid hm
    clear hb hm
    by_cases hk2 : k < vs.length
    · obtain ⟨ss, a2, cap2, hvk, g2, g3, g4, g5⟩ := HW.out k hk2
      rw [List.length_map] at hvk g2 g5
      obtain ⟨b, off, ha, hc⟩ : ∃ b off, a = some ⟨b, off, none⟩ ∧ wr.cell? ⟨b, off + k, none⟩ = some (.slice a2 ss.length cap2) := by
        rcases HV.out with h0 | ⟨b, off, h1, h2, h3⟩
        · rw [h0] at hk2; simp at hk2
        · exact ⟨b, off, h1, by rw [World.cell?_of_block (HB.out.block b h2), h3 k hk2, hvk]⟩
      subst ha
      have HVS : Hid (Vals (fun b => b < W.heap.size) W (.slice a2 ss.length cap2) (ss.map Value.string)) := hid ⟨a2, cap2, by rw [List.length_map], by rw [List.length_map]; exact g2, g3, g4, by rw [List.length_map]; exact g5⟩
      have G5 := hid g5
      clear hvk g2 g3 g4 g5
      have hd1 : decide ((k : Int) < (vs.length : Int)) = true := by simpa using hk2
      by_cases h20 : 20 < ss.length
      · go_wp2_with fail
        refine (HK.out _).mono ?_
        rintro e w' ⟨rfl, hb⟩
        have HB2 := hid (HB.out.trans (hb.mono HB.out.size))
        clear hb
        go_wp2_with fail
        go_ret
        exact ⟨rfl, HB2.out⟩
      have hd2 : decide ((20 : Int) < (ss.length : Int)) = false := by rw [decide_eq_false_iff_not]; omega
      go_wp2_with fail
      go_loop [7, 8] (fun x j => ∃ (q : Nat) (t : ByteArray), q ≤ ss.length ∧ j = .int .i64 q ∧ x = .string t ∧ Hid (t.data.toList = Crc.flat (ss.take q)) ∧ t.size ≤ q * 300 ∧ Hid (∀ s ∈ ss.take q, s.size ≤ 300)) (fun _ j => ss.length - (intOf j).toNat)
      case atStart => exact ⟨0, ⟨#[]⟩, Nat.zero_le _, rfl, rfl, hid rfl, Nat.zero_le _, hid (by simp)⟩
      case round =>
        obtain ⟨q, t, hq, rfl, rfl, HT, htz, HSZ⟩ := hrel
        by_cases hq2 : q < ss.length
        · obtain ⟨s, hs⟩ : ∃ s, ss[q] = s := ⟨_, rfl⟩
          obtain ⟨b2, off2, ha2, hc2⟩ : ∃ b2 off2, a2 = some ⟨b2, off2, none⟩ ∧ wr.cell? ⟨b2, off2 + q, none⟩ = some (.string s) := by
            rcases G5.out with h0 | ⟨b2, off2, h1, h2, h3⟩
            · have := congrArg List.length h0; rw [List.length_map, List.length_nil] at this; omega
            · refine ⟨b2, off2, h1, ?_⟩
              rw [World.cell?_of_block (HB.out.block b2 h2), h3 q hq2, ← hs]
              simp [List.getD, hq2]
          subst ha2
          have HF : Hid (Crc.flat (ss.take (q + 1)) = Crc.flat (ss.take q) ++ s.data.toList) := by show _ = _; rw [Crc.flat_take ss q hq2, hs]
          have HTK : Hid (ss.take (q + 1) = ss.take q ++ [s]) := by show _ = _; rw [List.take_succ_eq_append_getElem hq2, hs]
          clear hs
          by_cases h300 : 300 < s.size
          · go_wp2_with fail
            refine (HK.out _).mono ?_
            rintro e w' ⟨rfl, hb⟩
            have HB2 := hid (HB.out.trans (hb.mono HB.out.size))
            clear hb
            go_wp2_with fail
            go_ret
            exact ⟨rfl, HB2.out⟩
          · go_wp2_with fail
            go_round
            case rel =>
              refine ⟨q + 1, t ++ s, by omega, by go_num, rfl, hid ?_, by rw [ByteArray.size_append]; omega, hid ?_⟩
              · rw [ba_list, HT.out, HF.out]
              · intro x hx
                rw [HTK.out] at hx
                rcases List.mem_append.1 hx with h | h
                · exact HSZ.out x h
                · rw [List.mem_singleton.1 h]; omega
            case measure => simp [intOf]; omega
        · obtain rfl : q = ss.length := by omega
          have htk : ss.take ss.length = ss := List.take_length
          rw [htk] at HT HSZ
          have hlen : (Crc.flat ss).length = t.size := by rw [← HT.out, ba_len]
          have hof := rof_any t
          obtain ⟨r, hr⟩ : ∃ r, Crc.sum (Crc.flat ss) = r := ⟨_, rfl⟩
          rw [HT.out, hr] at hof
          have HOF : Hid (∀ w, Calls Try.prog 58 #[.string t] w fun e w' => e = .returned (.int .u32 r) ∧ w = w') := fun w => hof w (by omega)
          have hmf := mof_any (p := fun b => b < W.heap.size) W.heap.size c r ss _ wr HM.out (HVS.out.below HB.out (fun b hb => hb)) (fun b hb => ⟨Nat.lt_of_lt_of_le hb HB.out.size, by simp; omega⟩) (by omega) (fun s hs => Nat.le_trans (HSZ.out s hs) (by decide)) (by omega) hr
          rw [hlen] at hmf
          clear hr hof htk
          go_wp2_with fail
          refine hmf.mono ?_
          rintro e w2 ⟨rfl, ho2, hm2⟩
          have HB2 : Hid (Below W.heap.size W w2) := hid (HB.out.trans (ho2.below HB.out.size (by simp)))
          have HM2 := hid hm2.out
          clear hmf ho2 hm2
          go_wp2_with fail
          refine (HOF.out _).mono ?_
          rintro e w' ⟨rfl, rfl⟩
          go_wp2_with fail
          refine (made_any _ _ _ _ _ _ _ HM2.out).mono ?_
          rintro e w' ⟨rfl, rfl⟩
          go_wp2_with fail
          refine (bytes_any _ _ _ _ _ _ _ HM2.out).mono ?_
          rintro e w' ⟨rfl, rfl⟩
          go_wp2_with fail
          go_roundw
          case rel => exact ⟨k + 1, c + t.size, by omega, by go_num, by go_num, by omega, HB2.out, .inr HM2.out⟩
          case measure => simp [intOf]; omega
    · obtain rfl : k = vs.length := by omega
      go_wp2_with fail
      refine (mof_nil _ _).mono ?_
      rintro e w' ⟨rfl, rfl⟩
      have HB9 : Hid (Below W.heap.size W (wr.alloc (.cells #[.string ⟨#[120]⟩] 9))) := hid (HB.out.trans ((show Below wr.heap.size wr (wr.alloc (.cells #[.string ⟨#[120]⟩] 9)) by go_grown).mono HB.out.size))
      go_wp2_with fail
      refine (made_nil _).mono ?_
      rintro e w' ⟨rfl, rfl⟩
      go_wp2_with fail
      refine (bytes_nil _).mono ?_
      rintro e w' ⟨rfl, rfl⟩
      go_wp2_with fail
      refine (HK.out _).mono ?_
      rintro e w' ⟨rfl, hb⟩
      have HB2 := hid (HB9.out.trans (hb.mono HB9.out.size))
      clear hb
      go_wp2_with fail
      go_ret
      exact ⟨rfl, HB2.out⟩
end C03
end Go.Proofs.Ythmopkaecbebpaa
