/- Walks of layer 1 (octet): numbers as bytes; no condition. -/
import Derived.Test.YthmopkaecbebpaaC01
namespace Go.Proofs.Ythmopkaecbebpaa
open Go.RowKit Go.Peri
namespace C01
set_option maxRecDepth 100000 in
theorem fits256 (n w : Nat) (W : World) (hn : n < 18446744073709551616) (h2 : w ≤ 16) :
    Calls Try.prog 126 #[.int .u64 n, .int .u64 256, .int .i64 w] W fun e w' => e = .returned (.bool (decide (n < 256 ^ w))) ∧ W = w' := by
  go_enter Try.func126, Try.ntmps126
  go_wp2_with fail
  go_loop [0, 7] (fun x i => ∃ k m : Nat, k ≤ w ∧ i = .int .i64 k ∧ x = .int .u64 m ∧ m < 18446744073709551616 ∧ m = n / 256 ^ k) (fun _ i => w - (intOf i).toNat)
  case atStart => exact ⟨0, n, Nat.zero_le _, rfl, rfl, hn, by simp⟩
  case round =>
    obtain ⟨k, m, hk, rfl, rfl, hm, hmn⟩ := hrel
    have HM := hid hmn
    clear hmn
    by_cases hlt : k < w
    · go_wp2_with fail
      go_round
      case rel =>
        refine ⟨k + 1, m / 256, by omega, by go_num, by go_num, by omega, ?_⟩
        rw [HM.out, Nat.div_div_eq_div_mul, Nat.pow_succ]
      case measure => simp [intOf]; omega
    · obtain rfl : k = w := by omega
      have hd : Hid (((m : Int) == 0) = decide (n < 256 ^ k)) := by
        show _ = _
        have := pow_ne n 256 k (by decide)
        rw [← HM.out] at this
        by_cases hz : m = 0
        · simp [hz, this.1 hz]
        · have h3 := mt this.2 hz
          simp only [h3, decide_false, beq_eq_false_iff_ne]
          omega
      go_wp2_with fail
      go_ret
      exact ⟨ret_bool hd.out, rfl⟩

set_option maxRecDepth 100000 in
theorem put_any (n : Nat) (w : Int) (W : World) (hn : n < 18446744073709551616) :
    Calls Try.prog 124 #[.int .u64 n, .int .i64 w] W fun e w' => e = .returned (.tuple #[.string (putR n w).1, .int .i64 (putR n w).2]) ∧ Below W.heap.size W w' := by
  by_cases h0 : w < 1
  · have hr : Hid (putR n w = (ByteArray.empty, 2)) := by show _ = _; unfold putR; rw [if_neg (by omega)]
    go_enter Try.func124, Try.ntmps124
    go_wp2_with fail
    go_ret2
    exact ⟨by rw [hr.out]; rfl, Below.refl _ _⟩
  by_cases h8 : 8 < w
  · have hr : Hid (putR n w = (ByteArray.empty, 2)) := by show _ = _; unfold putR; rw [if_neg (by omega)]
    go_enter Try.func124, Try.ntmps124
    go_wp2_with fail
    go_ret2
    exact ⟨by rw [hr.out]; rfl, Below.refl _ _⟩
  obtain ⟨k, rfl⟩ := Int.eq_ofNat_of_zero_le (show 0 ≤ w by omega)
  have hk1 : 1 ≤ k := by omega
  have hk8 : k ≤ 8 := by omega
  clear h0 h8
  by_cases hlt : n < 256 ^ k
  · have hr : Hid (putR n k = (ofNats (Oct.dg 256 n k), 0)) := by show _ = _; unfold putR; rw [if_pos (by omega), Int.toNat_natCast, if_pos hlt]
    have hd : decide (n < 256 ^ k) = true := by simpa using hlt
    have HD := hid hd
    clear hlt hd
    go_enter Try.func124, Try.ntmps124
    go_wp2_with fail
    refine (within8 n k _ hn hk1 hk8).mono ?_
    rw [HD.out]
    rintro e w' ⟨rfl, rfl⟩
    go_wp2_with fail
    refine (split8 n k _ hn hk1 hk8).mono ?_
    rintro e w' ⟨v, rfl, rfl, hb, hx⟩
    have hc := back8 w' W.heap.size (Oct.dg 256 n k) (Oct.dg_lt 256 n (by decide) k) hx k
    rw [Oct.dg_length] at hc
    have HB := hid hb
    clear hb hx
    go_wp2_with fail
    go_ret2
    exact ⟨by rw [hr.out]; rfl, HB.out⟩
  · have hr : Hid (putR n k = (ByteArray.empty, 12)) := by show _ = _; unfold putR; rw [if_pos (by omega), Int.toNat_natCast, if_neg hlt]
    have hd : decide (n < 256 ^ k) = false := by simpa using hlt
    have HD := hid hd
    clear hlt hd
    go_enter Try.func124, Try.ntmps124
    go_wp2_with fail
    refine (within8 n k _ hn hk1 hk8).mono ?_
    rw [HD.out]
    rintro e w' ⟨rfl, rfl⟩
    go_wp2_with fail
    go_ret2
    exact ⟨by rw [hr.out]; rfl, Below.refl _ _⟩
set_option maxRecDepth 100000 in
theorem byte_any (n : Nat) (W : World) (hn : n < 18446744073709551616) :
    Calls Try.prog 127 #[.int .u64 n] W fun e w' => e = .returned (.string (ofNats [n % 256])) ∧ Below W.heap.size W w' := by
  have hx : Blk (W.alloc (.cells (bytes [n % 256]).toArray 5)) W.heap.size (bytes [n % 256]).toArray 5 := Blk.new _ _ _
  have hc := back8 (W.alloc (.cells (bytes [n % 256]).toArray 5)) W.heap.size [n % 256] (by simp; omega) hx 1
  have hb : Below W.heap.size W (W.alloc (.cells (bytes [n % 256]).toArray 5)) := by go_grown
  have HB := hid hb
  clear hx hb
  have e1 : (bytes [n % 256]).toArray = #[.int .u8 ((n % 256 : Nat) : Int)] := rfl
  have e2 : ((n % 256 : Nat) : Int) = (n : Int) % 256 := by omega
  rw [e1, e2] at hc HB
  simp only [List.length_cons, List.length_nil] at hc
  go_enter Try.func127, Try.ntmps127
  go_wp2_with fail
  go_ret
  exact ⟨rfl, HB.out⟩

theorem ofNats_cons (d : Nat) (l : List Nat) : ofNats [d] ++ ofNats l = ofNats (d :: l) := by
  unfold ofNats; rw [ByteArray.mk_append_mk]; rfl
theorem ofNats_size (l : List Nat) : (ofNats l).size = l.length := by simp [ofNats, ByteArray.size]

set_option maxRecDepth 100000 in
theorem rput_any (n : Nat) (w : Int) (W : World) (hn : n < 18446744073709551616) :
    Calls Try.prog 99 #[.int .u64 n, .int .i64 w] W fun e w' => e = .returned (.tuple #[.string (putR n w).1, .int .i64 (putR n w).2]) ∧ Below W.heap.size W w' := by
  by_cases h0 : w < 1
  · have hr : Hid (putR n w = (ByteArray.empty, 2)) := by show _ = _; unfold putR; rw [if_neg (by omega)]
    go_enter Try.func99, Try.ntmps99
    go_wp2_with fail
    go_ret2
    exact ⟨by rw [hr.out]; rfl, Below.refl _ _⟩
  by_cases h8 : 8 < w
  · have hr : Hid (putR n w = (ByteArray.empty, 2)) := by show _ = _; unfold putR; rw [if_neg (by omega)]
    go_enter Try.func99, Try.ntmps99
    go_wp2_with fail
    go_ret2
    exact ⟨by rw [hr.out]; rfl, Below.refl _ _⟩
  obtain ⟨k, rfl⟩ := Int.eq_ofNat_of_zero_le (show 0 ≤ w by omega)
  have hk1 : 1 ≤ k := by omega
  have hk8 : k ≤ 8 := by omega
  clear h0 h8
  by_cases hlt : n < 256 ^ k
  · have hr : Hid (putR n k = (ofNats (Oct.dg 256 n k), 0)) := by show _ = _; unfold putR; rw [if_pos (by omega), Int.toNat_natCast, if_pos hlt]
    have hd : decide (n < 256 ^ k) = true := by simpa using hlt
    have HD := hid hd
    clear hlt hd
    go_enter Try.func99, Try.ntmps99
    go_wp2_with fail
    refine (fits256 n k _ hn (by omega)).mono ?_
    rw [HD.out]
    rintro e w' ⟨rfl, rfl⟩
    go_wp2_with fail
    go_loopw [0, 6, 7] (fun x s i wr => ∃ j m : Nat, ∃ t : ByteArray, j ≤ k ∧ i = .int .i64 j ∧ x = .int .u64 m ∧ s = .string t ∧ m < 18446744073709551616 ∧ m = n / 256 ^ j ∧ t = ofNats (Oct.dg 256 n j) ∧ t.size = j ∧ Below W.heap.size W wr) (fun _ _ i _ => k - (intOf i).toNat)
    case atStart => exact ⟨0, n, _, Nat.zero_le _, rfl, rfl, rfl, hn, by simp, rfl, rfl, Below.refl _ _⟩
    case round =>
      obtain ⟨j, m, t, hj, rfl, rfl, rfl, hm, hmn, ht, hsz, hb⟩ := hrel
      have HMN := hid hmn
      have HB := hid hb
      have HT := hid ht
      by_cases hlt : j < k
      · have htx := byte_any m wr hm
        have hsz1 : (ofNats [m % 256]).size = 1 := rfl
        have hcat : ofNats [m % 256] ++ t = ofNats (Oct.dg 256 n (j + 1)) := by
          rw [ht, ofNats_cons]; show _ = ofNats (n / 256 ^ j % 256 :: _); rw [hmn]
        have HC := hid hcat
        clear hmn hb ht hcat
        generalize ofNats [m % 256] = t1 at htx hsz1 HC
        go_wp2_with fail
        refine htx.mono ?_
        rintro e w2 ⟨rfl, hb2⟩
        have HB2 := hid hb2
        clear hb2
        go_wp2_with fail
        go_roundw
        case rel =>
          refine ⟨j + 1, m / 256, t1 ++ t, by omega, by go_num, by go_num, rfl, by omega, ?_, HC.out, ?_, HB.out.trans (HB2.out.mono HB.out.size)⟩
          · rw [HMN.out, Nat.div_div_eq_div_mul, Nat.pow_succ]
          · rw [ByteArray.size_append, hsz1, hsz]; omega
        case measure => simp [intOf]; omega
      · obtain rfl : j = k := by omega
        clear hmn hb ht
        go_wp2_with fail
        go_ret2
        exact ⟨by rw [hr.out, HT.out]; rfl, HB.out⟩
  · have hr : Hid (putR n k = (ByteArray.empty, 12)) := by show _ = _; unfold putR; rw [if_pos (by omega), Int.toNat_natCast, if_neg hlt]
    have hd : decide (n < 256 ^ k) = false := by simpa using hlt
    have HD := hid hd
    clear hlt hd
    go_enter Try.func99, Try.ntmps99
    go_wp2_with fail
    refine (fits256 n k _ hn (by omega)).mono ?_
    rw [HD.out]
    rintro e w' ⟨rfl, rfl⟩
    go_wp2_with fail
    go_ret2
    exact ⟨by rw [hr.out]; rfl, Below.refl _ _⟩

end C01
end Go.Proofs.Ythmopkaecbebpaa
