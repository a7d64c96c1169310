/- Walks of layer 3 (crc): a bit, a byte, a text summed; no condition. -/
import Derived.Test.YthmopkaecbebpaaO03
import Derived.Test.YthmopkaecbebpaaP03
import Derived.Laws.BitsAllLaws

namespace Go.Peri
namespace Crc
theorem and1 (n : Nat) (hn : n < 4294967296) : bits .and .u32 (n : Int) 1 = ((n % 2 : Nat) : Int) := by
  rw [show (1 : Int) = ((1 : Nat) : Int) from rfl, u32_and_nat _ _ hn (by omega), nat_mask1]
theorem xor_nat (a b : Nat) (ha : a < 4294967296) (hb : b < 4294967296) : bits .xor .u32 (a : Int) (b : Int) = ((a ^^^ b : Nat) : Int) := u32_xor_nat a b ha hb
theorem not_nat (m : Nat) (h : m < 4294967296) : bits .xor .u32 IntKind.u32.max (m : Int) = ((4294967295 - m : Nat) : Int) := by
  have h1 := xor_nat 4294967295 m (by omega) h
  have e : 4294967295 ^^^ m = 4294967295 - m := by
    apply Nat.eq_of_testBit_eq
    intro i
    have h2 := Nat.testBit_two_pow_sub_succ (x := m) (n := 32) h i
    rw [Nat.testBit_xor, show 4294967295 - m = 2 ^ 32 - (m + 1) by omega, h2, show 4294967295 = 2 ^ 32 - 1 from rfl, Nat.testBit_two_pow_sub_one]
    by_cases hi : i < 32
    · simp [hi]
    · have : m.testBit i = false := Nat.testBit_lt_two_pow (Nat.lt_of_lt_of_le h (Nat.pow_le_pow_right (n := 2) (by decide) (show 32 ≤ i by omega)))
      simp [hi, this]
  rw [e] at h1
  rw [show IntKind.u32.max = ((4294967295 : Nat) : Int) from rfl]
  exact h1
theorem shift1 {n : Nat} (h : n % 2 = 1) : shift n = (n / 2) ^^^ turn := by unfold shift; rw [if_pos h, Nat.shiftRight_eq_div_pow]
theorem shift0 {n : Nat} (h : ¬ n % 2 = 1) : shift n = n / 2 := by unfold shift; rw [if_neg h, Nat.shiftRight_eq_div_pow]
end Crc
end Go.Peri
namespace Go.Proofs.Ythmopkaecbebpaa
open Go.RowKit Go.Peri
namespace C03
theorem shift_any (n : Nat) (w : World) (hn : n < 4294967296) : Calls Try.prog 125 #[.int .u32 n] w fun e w' => e = .returned (.int .u32 (Crc.shift n)) ∧ w = w' := by
  have ha := Crc.and1 n hn
  by_cases h1 : n % 2 = 1
  · rw [h1] at ha
    have hx : bits .xor .u32 ((n : Int) / 2) 3988292384 = ((n / 2 ^^^ Crc.turn : Nat) : Int) := Crc.xor_nat (n / 2) Crc.turn (by omega) (by decide)
    have hs := hid (Crc.shift1 h1)
    clear h1
    go_enter Try.func125, Try.ntmps125
    go_wp2
    go_ret
    exact ⟨by rw [hs.out]; rfl, rfl⟩
  · have h2 : n % 2 = 0 := by omega
    rw [h2] at ha
    have hs := hid (Crc.shift0 h1)
    clear h1 h2
    go_enter Try.func125, Try.ntmps125
    go_wp2
    go_ret
    exact ⟨by rw [hs.out]; rfl, rfl⟩
theorem step_any (n : Nat) (w : World) (hn : n < 4294967296) : Calls Try.prog 98 #[.int .u32 n] w fun e w' => e = .returned (.int .u32 (Crc.step n)) ∧ w = w' := by
  go_enter Try.func98, Try.ntmps98
  go_wp2
  go_loop [0, 3] (fun x i => ∃ k : Nat, k ≤ 8 ∧ i = .int .i64 k ∧ x = .int .u32 (Crc.shifts k n)) (fun _ i => 8 - (intOf i).toNat)
  case atStart => exact ⟨0, Nat.zero_le _, rfl, rfl⟩
  case round =>
    obtain ⟨k, hk, rfl, rfl⟩ := hrel
    have hlt := Crc.shifts_lt hn k
    have HN : Hid (Crc.shifts (k + 1) n = Crc.shift (Crc.shifts k n)) := hid rfl
    by_cases hk8 : k < 8
    · generalize Crc.shifts k n = m at hlt HN
      go_wp2_with (go_at_call 125; refine (shift_any m _ hlt).mono ?_; rintro e w' ⟨rfl, rfl⟩)
      go_round
      case rel => exact ⟨k + 1, by omega, by go_num, by rw [HN.out]⟩
      case measure => simp [intOf]; omega
    · obtain rfl : k = 8 := by omega
      go_wp2
      go_ret
      exact ⟨rfl, rfl⟩
theorem take_snoc (s : ByteArray) (k : Nat) (h : k < s.size) : s.data.toList.take (k + 1) = s.data.toList.take k ++ [s[k]] := by
  rw [List.take_succ_eq_append_getElem (by simpa using h)]; rfl
set_option maxRecDepth 100000 in
theorem of_any (s : ByteArray) (w : World) (hs : s.size ≤ 1000000000) : Calls Try.prog 57 #[.string s] w fun e w' => e = .returned (.int .u32 (Crc.sum s.data.toList)) ∧ w = w' := by
  go_enter Try.func57, Try.ntmps57
  go_wp2
  go_loop [3, 7] (fun x i => ∃ k : Nat, k ≤ s.size ∧ i = .int .i64 k ∧ x = .int .u32 (Crc.fold 4294967295 (s.data.toList.take k))) (fun _ i => s.size - (intOf i).toNat)
  case atStart => exact ⟨0, Nat.zero_le _, rfl, rfl⟩
  case round =>
    obtain ⟨k, hk, rfl, rfl⟩ := hrel
    have hlt := Crc.fold_lt (sum := 4294967295) (by decide) (s.data.toList.take k)
    by_cases hks : k < s.size
    · have HN : Hid (Crc.fold 4294967295 (s.data.toList.take (k + 1)) = Crc.step (Crc.fold 4294967295 (s.data.toList.take k) ^^^ (s[k]).toNat)) := by show _ = _; rw [take_snoc s k hks, Crc.fold_snoc]
      have hb := (s[k]).toNat_lt
      have hxl := Crc.xor_byte_lt hlt s[k]
      generalize Crc.fold 4294967295 (s.data.toList.take k) = m at hlt HN hxl
      have hx := Crc.xor_nat m (s[k]).toNat hlt (by omega)
      go_wp2_with (go_at_call 98; refine (step_any (m ^^^ (s[k]).toNat) _ hxl).mono ?_; rintro e w' ⟨rfl, rfl⟩)
      go_round
      case rel => exact ⟨k + 1, by omega, by go_num, by rw [HN.out]⟩
      case measure => simp [intOf]; omega
    · obtain rfl : k = s.size := by omega
      have HT : Hid (s.data.toList.take s.size = s.data.toList) := by show _ = _; exact List.take_of_length_le (by simp)
      have HS : Hid (Crc.sum s.data.toList = 4294967295 - Crc.fold 4294967295 (s.data.toList.take s.size)) := by show _ = _; rw [HT.out]; rfl
      generalize Crc.fold 4294967295 (s.data.toList.take s.size) = m at hlt HS
      have hn := Crc.not_nat m hlt
      go_wp2
      go_ret
      exact ⟨by rw [HS.out]; rfl, rfl⟩
end C03
end Go.Proofs.Ythmopkaecbebpaa
