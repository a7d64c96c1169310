/- Walks of layer 3 (crc): the document's sums; no condition. -/
import Derived.Test.YthmopkaecbebpaaD03
namespace Go.Proofs.Ythmopkaecbebpaa
open Go.RowKit Go.Peri
namespace C03
open C01
theorem inBits_lt {n b : Nat} (h : n < 4294967296) : ∀ k, Crc.inBits n b k < 4294967296
  | 0 => h
  | k + 1 => by
    have := inBits_lt (b := b) h k
    show Crc.inBit _ _ _ < _
    unfold Crc.inBit
    split
    · exact Nat.xor_lt_two_pow (n := 32) (by omega) (by decide)
    · omega
theorem castPow (x b : Nat) : ((x / 2 ^ b : Nat) : Int) = (x : Int) / 2 ^ b := by simp
set_option maxRecDepth 100000 in
theorem rof_any (s : ByteArray) (w : World) (hs : s.size ≤ 1000000000) : Calls Try.prog 58 #[.string s] w fun e w' => e = .returned (.int .u32 (Crc.sum s.data.toList)) ∧ w = w' := by
  go_enter Try.func58, Try.ntmps58
  go_wp2
  go_loop [3, 4] (fun x i => ∃ k : Nat, k ≤ s.size ∧ i = .int .i64 k ∧ x = .int .u32 (Crc.fold 4294967295 (s.data.toList.take k))) (fun _ i => s.size - (intOf i).toNat)
  case atStart => exact ⟨0, Nat.zero_le _, rfl, rfl⟩
  case round =>
    obtain ⟨k, hk, rfl, rfl⟩ := hrel
    have hlt := Crc.fold_lt (sum := 4294967295) (by decide) (s.data.toList.take k)
    by_cases hks : k < s.size
    · have HN : Hid (Crc.fold 4294967295 (s.data.toList.take (k + 1)) = Crc.inBits (Crc.fold 4294967295 (s.data.toList.take k)) (s[k]).toNat 8) := by show _ = _; rw [take_snoc s k hks, Crc.fold_snoc, Crc.inBits_step]
      have hb := (s[k]).toNat_lt
      have hd1 : decide ((k : Int) < (s.size : Int)) = true := by simpa using hks
      generalize Crc.fold 4294967295 (s.data.toList.take k) = m at hlt HN
      go_wp2
      go_loop [3, 5] (fun x j => ∃ b : Nat, b ≤ 8 ∧ j = .int .i64 b ∧ x = .int .u32 (Crc.inBits m (s[k]).toNat b)) (fun _ j => 8 - (intOf j).toNat)
      case atStart => exact ⟨0, Nat.zero_le _, rfl, rfl⟩
      case round =>
        obtain ⟨b, hb8, rfl, rfl⟩ := hrel
        have hq := inBits_lt (b := (s[k]).toNat) hlt b
        have HQ : Hid (Crc.inBits m (s[k]).toNat (b + 1) = Crc.inBit (Crc.inBits m (s[k]).toNat b) (s[k]).toNat b) := hid rfl
        by_cases hb9 : b < 8
        · generalize Crc.inBits m (s[k]).toNat b = q at hq HQ
          have hsh : (s[k]).toNat >>> b = (s[k]).toNat / 2 ^ b := Nat.shiftRight_eq_div_pow _ _
          by_cases ho : q % 2 = (s[k]).toNat / 2 ^ b % 2
          · have HI : Hid (Crc.inBit q (s[k]).toNat b = q / 2) := by show _ = _; unfold Crc.inBit; rw [hsh, if_neg (by simpa using ho)]
            have t1 : ((q : Int) % 2 == ((s[k].toNat : Int) / 2 ^ b) % 2) = true := by rw [beq_iff_eq, ← castPow]; omega
            clear ho hsh
            go_wp2
            go_round
            case rel => exact ⟨b + 1, by omega, by go_num, by rw [HQ.out, HI.out]; rfl⟩
            case measure => simp [intOf]; omega
          · have hq2 : q / 2 < 4294967296 := by omega
            have HI : Hid (Crc.inBit q (s[k]).toNat b = q / 2 ^^^ Crc.turn) := by show _ = _; unfold Crc.inBit; rw [hsh, if_pos (by simpa using ho)]
            have t1 : ((q : Int) % 2 == ((s[k].toNat : Int) / 2 ^ b) % 2) = false := by rw [beq_eq_false_iff_ne, ← castPow]; omega
            have hx : bits .xor .u32 ((q : Int) / 2) 3988292384 = ((q / 2 ^^^ Crc.turn : Nat) : Int) := Crc.xor_nat (q / 2) Crc.turn hq2 (by decide)
            clear ho hsh
            go_wp2
            go_round
            case rel => exact ⟨b + 1, by omega, by go_num, by rw [HQ.out, HI.out]⟩
            case measure => simp [intOf]; omega
        · obtain rfl : b = 8 := by omega
          rw [← HN.out]
          go_wp2
          go_round
          case rel => exact ⟨k + 1, by omega, by go_num, rfl⟩
          case measure => simp [intOf]; omega
    · obtain rfl : k = s.size := by omega
      have HT : Hid (s.data.toList.take s.size = s.data.toList) := by show _ = _; exact List.take_of_length_le (by simp)
      have HS : Hid (Crc.sum s.data.toList = 4294967295 - Crc.fold 4294967295 (s.data.toList.take s.size)) := by show _ = _; rw [HT.out]; rfl
      generalize Crc.fold 4294967295 (s.data.toList.take s.size) = m at hlt HS
      go_wp2
      go_ret
      exact ⟨by rw [HS.out]; go_num, rfl⟩
end C03
end Go.Proofs.Ythmopkaecbebpaa
