/- Walks of layer 3 (crc): what must come of fixed calls; no condition. -/
import Derived.Test.YthmopkaecbebpaaJ03
import Derived.Test.YthmopkaecbebpaaF03
namespace Go.Proofs.Ythmopkaecbebpaa
open Go.RowKit Go.Peri
namespace C03
theorem mof_nil (v : Value) (w : World) : Calls Try.prog 62 #[.pointer none, v] w fun e w' => e = .returned (.int .u32 0) ∧ w = w' := by
  go_enter Try.func62, Try.ntmps62
  go_wp2
  go_ret
  exact ⟨rfl, rfl⟩
theorem open_seal (s : ByteArray) : openR (s ++ tailR s) = (s, 0) := by
  have h4 := tailR_size s
  have hz : (s ++ tailR s).size = s.size + 4 := by rw [ByteArray.size_append, h4]
  have e1 : (s ++ tailR s).extract 0 s.size = s := by
    apply ba_ext
    rw [ext_list, ba_list, List.drop_zero, Nat.sub_zero, ← ba_len s, List.take_left]
  have e2 : (s ++ tailR s).extract s.size (s.size + 4) = tailR s := by
    apply ba_ext
    rw [ext_list, ba_list, Nat.add_sub_cancel_left, ← ba_len s, List.drop_left, List.take_of_length_le (by rw [ba_len, h4]; omega)]
  unfold openR
  rw [hz, if_neg (by omega), Nat.add_sub_cancel, e1, e2, if_pos rfl]
def nine : ByteArray := ⟨#[49, 50, 51, 52, 53, 54, 55, 56, 57]⟩
theorem sum_nine : Crc.sum nine.data.toList = 3421780262 := by kernel_rfl
def parts : List ByteArray := [⟨#[49, 50, 51, 52]⟩, ⟨#[]⟩, ⟨#[53, 54, 55, 56, 57]⟩]
theorem sum_parts : Crc.sum (Crc.flat parts) = 3421780262 := by kernel_rfl
theorem flat_parts : (Crc.flat parts).length = 9 := by kernel_rfl
set_option maxRecDepth 100000 in
set_option maxHeartbeats 2000000 in
theorem known_any (W : World) : Calls Try.prog 54 #[] W fun e w' => e = .returned (.bool true) ∧ Below W.heap.size W w' := by
  go_enter Try.func54, Try.ntmps54
  go_wp2_with fail
  refine (new_any _).mono ?_
  rintro e w1 ⟨rfl, hb1, hl1, hm1⟩
  have HB1 := hid hb1
  have HM1 := hid hm1
  clear hb1 hm1
  go_wp2_with fail
  refine (made_any _ _ _ _ _ _ _ HM1.out).mono ?_
  rintro e w' ⟨rfl, rfl⟩
  go_wp2_with fail
  have ts := tailR_size ⟨#[97, 98]⟩
  have hos := open_seal ⟨#[97, 98]⟩
  have hsl := seal_any ⟨#[97, 98]⟩ w1 (by decide)
  have hzz : (⟨#[97, 98]⟩ ++ tailR ⟨#[97, 98]⟩ : ByteArray).size = 6 := by rw [ByteArray.size_append, ts]; rfl
  generalize (⟨#[97, 98]⟩ ++ tailR ⟨#[97, 98]⟩ : ByteArray) = t at hos hsl hzz
  refine hsl.mono ?_
  rintro e w2 ⟨rfl, hb2⟩
  have hop := open_any t w2 (by omega)
  rw [hos] at hop
  dsimp only at hop
  have HB2 := hid (HB1.out.trans (hb2.mono (by omega)))
  have HM2 := hid (HM1.out.later hb2)
  clear hsl hb2 hos ts
  go_wp2_with fail
  refine hop.mono ?_
  rintro e w3 ⟨rfl, hb3⟩
  have HB3 := hid (HB2.out.trans (hb3.mono HB2.out.size))
  have HM3 := hid (HM2.out.later hb3)
  clear hop hb3
  have hof := of_any nine w3 (by decide)
  rw [sum_nine] at hof
  go_wp2_with fail
  refine hof.mono ?_
  rintro e w' ⟨rfl, rfl⟩
  clear hof
  go_wp2_with fail
  have hlt3 := HM3.out.lt
  have hbk : Blk (w3.alloc (.cells (parts.map Value.string).toArray 9)) w3.heap.size (parts.map Value.string).toArray 9 := Blk.new _ _ _
  have hba : Below w3.heap.size w3 (w3.alloc (.cells (parts.map Value.string).toArray 9)) := by go_grown
  have HBA := hid (HB3.out.trans (hba.mono HB3.out.size))
  have hmf := mof_any (p := fun b => b = w3.heap.size) W.heap.size 0 3421780262 parts _ _ (.inl (HM3.out.later hba)) (hbk.vals (by decide)) (fun b hb => ⟨by rw [hb]; simp, by rw [hb]; simp; omega⟩) (by decide) (by decide) (by rw [flat_parts]; decide) sum_parts
  rw [flat_parts] at hmf
  clear hbk hba
  refine hmf.mono ?_
  rintro e w4 ⟨rfl, ho4, hm4⟩
  have HB4 : Hid (Below W.heap.size W w4) := hid (HBA.out.trans (ho4.below HBA.out.size (by simp)))
  have HM4 := hid hm4.out
  clear hmf ho4 hm4
  go_wp2_with fail
  refine (made_any _ _ _ _ _ _ _ HM4.out).mono ?_
  rintro e w' ⟨rfl, rfl⟩
  go_wp2_with fail
  refine (bytes_any _ _ _ _ _ _ _ HM4.out).mono ?_
  rintro e w' ⟨rfl, rfl⟩
  go_wp2_with fail
  go_ret
  exact ⟨rfl, HB4.out⟩
set_option maxRecDepth 100000 in
set_option maxHeartbeats 2000000 in
theorem sums_walk (s : ByteArray) (W : World) : Calls Try.prog 13 #[.string s] W fun e w' => e = .returned (.bool true) ∧ Below W.heap.size W w' := by
  by_cases h2 : 2000 < s.size
  · go_enter Try.func13, Try.ntmps13
    go_wp2_with fail
    refine (known_any _).mono ?_
    rintro e w' ⟨rfl, hb⟩
    have HB := hid hb
    clear hb
    go_wp2_with fail
    go_ret
    exact ⟨rfl, HB.out⟩
  have HS : Hid (s.size ≤ 1000000000) := hid (by omega)
  obtain ⟨a, e, hr⟩ : ∃ a e, openR s = (a, e) := ⟨_, _, rfl⟩
  have HO : Hid (∀ w, Calls Try.prog 55 #[.string s] w fun e' w' => e' = .returned (.tuple #[.string a, .int .i64 e]) ∧ Below w.heap.size w w') := fun w => by have := open_any s w HS.out; rwa [hr] at this
  have HRO : Hid (∀ w, Calls Try.prog 56 #[.string s] w fun e' w' => e' = .returned (.tuple #[.string a, .int .i64 e]) ∧ Below w.heap.size w w') := fun w => by have := ropen_any s w HS.out; rwa [hr] at this
  obtain ⟨n, hn⟩ : ∃ n, Crc.sum s.data.toList = n := ⟨_, rfl⟩
  obtain ⟨t, ht⟩ : ∃ t, s ++ tailR s = t := ⟨_, rfl⟩
  have HF : Hid (∀ w, Calls Try.prog 57 #[.string s] w fun e' w' => e' = .returned (.int .u32 n) ∧ w = w') := fun w => by have := of_any s w HS.out; rwa [hn] at this
  have HRF : Hid (∀ w, Calls Try.prog 58 #[.string s] w fun e' w' => e' = .returned (.int .u32 n) ∧ w = w') := fun w => by have := rof_any s w HS.out; rwa [hn] at this
  have HL : Hid (∀ w, Calls Try.prog 59 #[.string s] w fun e' w' => e' = .returned (.string t) ∧ Below w.heap.size w w') := fun w => by have := seal_any s w HS.out; rwa [ht] at this
  have HRL : Hid (∀ w, Calls Try.prog 60 #[.string s] w fun e' w' => e' = .returned (.string t) ∧ Below w.heap.size w w') := fun w => by have := rseal_any s w HS.out; rwa [ht] at this
  clear hr hn ht
  go_enter Try.func13, Try.ntmps13
  go_wp2_with fail
  refine (HO.out _).mono ?_
  rintro e' w1 ⟨rfl, hb1⟩
  have HB1 := hid hb1
  clear hb1
  go_wp2_with fail
  refine (HRO.out _).mono ?_
  rintro e' w2 ⟨rfl, hb2⟩
  have HB2 := hid (HB1.out.trans (hb2.mono HB1.out.size))
  clear hb2
  go_wp2_with fail
  refine (HF.out _).mono ?_
  rintro e' w' ⟨rfl, rfl⟩
  go_wp2_with fail
  refine (HRF.out _).mono ?_
  rintro e' w' ⟨rfl, rfl⟩
  go_wp2_with fail
  refine (HL.out _).mono ?_
  rintro e' w3 ⟨rfl, hb3⟩
  have HB3 := hid (HB2.out.trans (hb3.mono HB2.out.size))
  clear hb3
  go_wp2_with fail
  refine (HRL.out _).mono ?_
  rintro e' w4 ⟨rfl, hb4⟩
  have HB4 := hid (HB3.out.trans (hb4.mono HB3.out.size))
  clear hb4
  go_wp2_with fail
  refine (known_any _).mono ?_
  rintro e' w5 ⟨rfl, hb5⟩
  have HB5 := hid (HB4.out.trans (hb5.mono HB4.out.size))
  clear hb5
  go_wp2_with fail
  go_ret
  exact ⟨rfl, HB5.out⟩
end C03
end Go.Proofs.Ythmopkaecbebpaa
