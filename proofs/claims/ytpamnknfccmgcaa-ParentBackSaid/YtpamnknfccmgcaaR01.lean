/- Walks of layer 1 (octet): the document's answers; no condition. -/
import Derived.Test.YtpamnknfccmgcaaH01
namespace Go.Proofs.Ytpamnknfccmgcaa
open Go.RowKit Go.Peri
namespace C01

set_option maxRecDepth 100000 in
theorem fits256 (n w : Nat) (W : World) (hn : n < 18446744073709551616) (h2 : w ≤ 16) :
    Calls Try.prog 195 #[.int .u64 n, .int .u64 256, .int .i64 w] W fun e w' => e = .returned (.bool (decide (n < 256 ^ w))) ∧ W = w' := by
  go_enter Try.func195, Try.ntmps195
  go_wp2_with fail
  go_loop [0, 7] (fun x i => ∃ k m : Nat, k ≤ w ∧ i = .int .i64 k ∧ x = .int .u64 m ∧ m < 18446744073709551616 ∧ m = n / 256 ^ k) (fun _ i => w - (intOf i).toNat)
  case atStart => exact ⟨0, n, Nat.zero_le _, rfl, rfl, hn, by simp⟩
  case round =>
    obtain ⟨k, m, hk, rfl, rfl, hm, hmn⟩ := hrel
    have HM := hid hmn
    clear hmn
    by_cases hlt : k < w
    · go_wp2_with fail
      go_round
      case rel =>
        refine ⟨k + 1, m / 256, by omega, by go_num, by go_num, by omega, ?_⟩
        rw [HM.out, Nat.div_div_eq_div_mul, Nat.pow_succ]
      case measure => simp [intOf]; omega
    · obtain rfl : k = w := by omega
      have hd : Hid (((m : Int) == 0) = decide (n < 256 ^ k)) := by
        show _ = _
        have := pow_ne n 256 k (by decide)
        rw [← HM.out] at this
        by_cases hz : m = 0
        · simp [hz, this.1 hz]
        · have h3 := mt this.2 hz
          simp only [h3, decide_false, beq_eq_false_iff_ne]
          omega
      go_wp2_with fail
      go_ret
      exact ⟨ret_bool hd.out, rfl⟩

set_option maxRecDepth 100000 in
theorem fits16 (n w : Nat) (W : World) (hn : n < 18446744073709551616) (h2 : w ≤ 16) :
    Calls Try.prog 195 #[.int .u64 n, .int .u64 16, .int .i64 w] W fun e w' => e = .returned (.bool (decide (n < 16 ^ w))) ∧ W = w' := by
  go_enter Try.func195, Try.ntmps195
  go_wp2_with fail
  go_loop [0, 7] (fun x i => ∃ k m : Nat, k ≤ w ∧ i = .int .i64 k ∧ x = .int .u64 m ∧ m < 18446744073709551616 ∧ m = n / 16 ^ k) (fun _ i => w - (intOf i).toNat)
  case atStart => exact ⟨0, n, Nat.zero_le _, rfl, rfl, hn, by simp⟩
  case round =>
    obtain ⟨k, m, hk, rfl, rfl, hm, hmn⟩ := hrel
    have HM := hid hmn
    clear hmn
    by_cases hlt : k < w
    · go_wp2_with fail
      go_round
      case rel =>
        refine ⟨k + 1, m / 16, by omega, by go_num, by go_num, by omega, ?_⟩
        rw [HM.out, Nat.div_div_eq_div_mul, Nat.pow_succ]
      case measure => simp [intOf]; omega
    · obtain rfl : k = w := by omega
      have hd : Hid (((m : Int) == 0) = decide (n < 16 ^ k)) := by
        show _ = _
        have := pow_ne n 16 k (by decide)
        rw [← HM.out] at this
        by_cases hz : m = 0
        · simp [hz, this.1 hz]
        · have h3 := mt this.2 hz
          simp only [h3, decide_false, beq_eq_false_iff_ne]
          omega
      go_wp2_with fail
      go_ret
      exact ⟨ret_bool hd.out, rfl⟩

theorem ofNats_cons (d : Nat) (l : List Nat) : ofNats [d] ++ ofNats l = ofNats (d :: l) := by
  unfold ofNats; rw [ByteArray.mk_append_mk]; rfl
theorem ofNats_size (l : List Nat) : (ofNats l).size = l.length := by simp [ofNats, ByteArray.size]

end C01
end Go.Proofs.Ytpamnknfccmgcaa
