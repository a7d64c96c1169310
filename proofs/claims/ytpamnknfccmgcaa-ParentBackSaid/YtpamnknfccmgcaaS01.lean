/- Walks of layer 1 (octet): the document's answers, more; no condition. -/
import Derived.Test.YtpamnknfccmgcaaR01
namespace Go.Proofs.Ytpamnknfccmgcaa
open Go.RowKit Go.Peri
namespace C01

theorem digit_slice (d : Nat) (hd : d < 16) (W : World) : (Instr.slice 9 (.string ⟨#[48, 49, 50, 51, 52, 53, 54, 55, 56, 57, 97, 98, 99, 100, 101, 102]⟩) (some (.int .i64 (d : Int))) (some (.int .i64 ((d : Int) + 1))) none).run Try.prog W = .ok (.string (ofNats [hexd d])) W := by
  match d, hd with
  | 0, _ => (show _ = _); kernel_rfl
  | 1, _ => (show _ = _); kernel_rfl
  | 2, _ => (show _ = _); kernel_rfl
  | 3, _ => (show _ = _); kernel_rfl
  | 4, _ => (show _ = _); kernel_rfl
  | 5, _ => (show _ = _); kernel_rfl
  | 6, _ => (show _ = _); kernel_rfl
  | 7, _ => (show _ = _); kernel_rfl
  | 8, _ => (show _ = _); kernel_rfl
  | 9, _ => (show _ = _); kernel_rfl
  | 10, _ => (show _ = _); kernel_rfl
  | 11, _ => (show _ = _); kernel_rfl
  | 12, _ => (show _ = _); kernel_rfl
  | 13, _ => (show _ = _); kernel_rfl
  | 14, _ => (show _ = _); kernel_rfl
  | 15, _ => (show _ = _); kernel_rfl
  | n + 16, h => exact absurd h (by omega)

set_option maxRecDepth 100000 in
theorem rhex_any (n : Nat) (w : Int) (W : World) (hn : n < 18446744073709551616) :
    Calls Try.prog 140 #[.int .u64 n, .int .i64 w] W fun e w' => e = .returned (.tuple #[.string (hexR n w).1, .int .i64 (hexR n w).2]) ∧ W = w' := by
  by_cases h0 : w < 1
  · have hr : Hid (hexR n w = (ByteArray.empty, 2)) := by show _ = _; unfold hexR; rw [if_neg (by omega)]
    go_enter Try.func140, Try.ntmps140
    go_wp2_with fail
    go_ret2
    exact ⟨by rw [hr.out]; rfl, rfl⟩
  by_cases h8 : 16 < w
  · have hr : Hid (hexR n w = (ByteArray.empty, 2)) := by show _ = _; unfold hexR; rw [if_neg (by omega)]
    go_enter Try.func140, Try.ntmps140
    go_wp2_with fail
    go_ret2
    exact ⟨by rw [hr.out]; rfl, rfl⟩
  obtain ⟨k, rfl⟩ := Int.eq_ofNat_of_zero_le (show 0 ≤ w by omega)
  have hk1 : 1 ≤ k := by omega
  have hk8 : k ≤ 16 := by omega
  clear h0 h8
  by_cases hlt : n < 16 ^ k
  · have hr : Hid (hexR n k = (ofNats ((Oct.dg 16 n k).map hexd), 0)) := by show _ = _; unfold hexR; rw [if_pos (by omega), Int.toNat_natCast, if_pos hlt]
    have hd : decide (n < 16 ^ k) = true := by simpa using hlt
    have HD := hid hd
    clear hlt hd
    go_enter Try.func140, Try.ntmps140
    go_wp2_with fail
    refine (fits16 n k _ hn (by omega)).mono ?_
    rw [HD.out]
    rintro e w' ⟨rfl, rfl⟩
    go_wp2_with fail
    go_loop [0, 7, 8, 9] (fun x s i _ => ∃ j m : Nat, ∃ t : ByteArray, j ≤ k ∧ i = .int .i64 j ∧ x = .int .u64 m ∧ s = .string t ∧ m < 18446744073709551616 ∧ m = n / 16 ^ j ∧ t = ofNats ((Oct.dg 16 n j).map hexd) ∧ t.size = j) (fun _ _ i _ => k - (intOf i).toNat)
    case atStart => exact ⟨0, n, _, Nat.zero_le _, rfl, rfl, rfl, hn, by simp, rfl, rfl⟩
    case round =>
      obtain ⟨j, m, t, hj, rfl, rfl, rfl, hm, hmn, ht, hsz⟩ := hrel
      have HMN := hid hmn
      have HT := hid ht
      by_cases hlt : j < k
      · have hsl := fun W => digit_slice (m % 16) (by omega) W
        have hsz1 : (ofNats [hexd (m % 16)]).size = 1 := rfl
        have hcat : ofNats [hexd (m % 16)] ++ t = ofNats ((Oct.dg 16 n (j + 1)).map hexd) := by
          rw [ht, ofNats_cons]; show _ = ofNats (hexd (n / 16 ^ j % 16) :: _); rw [hmn]
        have HC := hid hcat
        clear hmn ht hcat
        generalize ofNats [hexd (m % 16)] = t1 at hsl hsz1 HC
        have e2 : ((m % 16 : Nat) : Int) = (m : Int) % 16 := by omega
        rw [e2] at hsl
        clear e2
        go_wp2_with fail
        go_round
        case rel =>
          refine ⟨j + 1, m / 16, t1 ++ t, by omega, by go_num, by go_num, rfl, by omega, ?_, HC.out, ?_⟩
          · rw [HMN.out, Nat.div_div_eq_div_mul, Nat.pow_succ]
          · rw [ByteArray.size_append, hsz1, hsz]; omega
        case measure => simp [intOf]; omega
      · obtain rfl : j = k := by omega
        clear hmn ht
        go_wp2_with fail
        go_ret2
        exact ⟨by rw [hr.out, HT.out]; rfl, rfl⟩
  · have hr : Hid (hexR n k = (ByteArray.empty, 12)) := by show _ = _; unfold hexR; rw [if_pos (by omega), Int.toNat_natCast, if_neg hlt]
    have hd : decide (n < 16 ^ k) = false := by simpa using hlt
    have HD := hid hd
    clear hlt hd
    go_enter Try.func140, Try.ntmps140
    go_wp2_with fail
    refine (fits16 n k _ hn (by omega)).mono ?_
    rw [HD.out]
    rintro e w' ⟨rfl, rfl⟩
    go_wp2_with fail
    go_ret2
    exact ⟨by rw [hr.out]; rfl, rfl⟩

theorem str_at (s : ByteArray) (k : Nat) (h : k < s.size) (W : World) : (Instr.index 9 (.string s) (.int .i64 (k : Int))).run Try.prog W = .ok (.int .u8 ((s[k]'h).toNat : Nat)) W := by
  simp [go_sem, h, Try.underlying9]

set_option maxRecDepth 100000 in
theorem runhex_any (s : ByteArray) (W : World) (hs : s.size ≤ 1000000000000000) :
    Calls Try.prog 134 #[.string s] W fun e w' => e = .returned (.tuple #[.int .u64 (unhexR s).1, .int .i64 (unhexR s).2]) ∧ W = w' := by
  by_cases h1 : s.size < 1
  · have hr : Hid (unhexR s = (0, 3)) := by show _ = _; unfold unhexR; rw [if_neg (by omega)]
    have h1' : (s.size : Int) < 1 := by omega
    clear h1
    go_enter Try.func134, Try.ntmps134
    go_wp2_with fail
    go_ret2
    exact ⟨by rw [hr.out]; rfl, rfl⟩
  by_cases h2 : 16 < s.size
  · have hr : Hid (unhexR s = (0, 3)) := by show _ = _; unfold unhexR; rw [if_neg (by omega)]
    go_enter Try.func134, Try.ntmps134
    go_wp2_with fail
    go_ret2
    exact ⟨by rw [hr.out]; rfl, rfl⟩
  have g1 : ¬ (s.size : Int) < 1 := by omega
  go_enter Try.func134, Try.ntmps134
  go_wp2_with fail
  go_loop [4, 5, 6] (fun x i _ => ∃ k m : Nat, k ≤ s.size ∧ i = .int .i64 k ∧ x = .int .u64 m ∧ m = Oct.val 16 (hvs s k) ∧ (∀ d ∈ hvs s k, d < 16)) (fun _ i _ => s.size - (intOf i).toNat)
  case atStart => exact ⟨0, 0, Nat.zero_le _, rfl, rfl, by simp [hvs, bytesAt, Oct.val], by simp [hvs, bytesAt]⟩
  case round =>
    obtain ⟨k, m, hk, rfl, rfl, hm, hds⟩ := hrel
    by_cases hlt : k < s.size
    · have hb : m < 16 ^ 15 := by
        have h3 := Oct.val_bound 16 _ hds k (by decide) (hvs_len s k)
        rw [hm]; exact Nat.lt_of_lt_of_le h3 (Nat.pow_le_pow_right (by decide) (by omega))
      have HS := hid (hvs_succ s k hlt)
      have HME := hid (hvs_mem s k hlt)
      have HM := hid hm
      have HD := hid hds
      have hc : (s[k]'hlt).toNat < 256 := (s[k]'hlt).toNat_lt
      clear hm hds
      have hb0 : (0 : Int) ≤ (m : Int) := by omega
      have hb' : (m : Int) * 16 ≤ 18446744073709551600 := by omega
      clear hb
      have hix := fun W => str_at s k hlt W
      generalize (s[k]'hlt).toNat = c at HS HME hc hix
      by_cases d1 : 48 ≤ c ∧ c ≤ 57
      · have hh : hv c = c - 48 := by unfold hv; rw [if_pos d1]
        have HH := hid hh
        clear hh
        obtain ⟨d1, d2⟩ := d1
        go_wp2_with fail
        go_round
        case rel =>
          refine ⟨k + 1, m * 16 + hv c, by omega, by go_num, by rw [HH.out]; go_num, ?_, ?_⟩
          · rw [HS.out, Oct.val_snoc, ← HM.out]
          · rw [HS.out]
            intro d hd
            rcases List.mem_append.1 hd with hd | hd
            · exact HD.out d hd
            · rw [List.mem_singleton.1 hd, HH.out]; omega
        case measure => simp [intOf]; omega
      by_cases e1 : 97 ≤ c ∧ c ≤ 102
      · have hh : hv c = c - 87 := by unfold hv; rw [if_neg d1, if_pos e1]
        have HH := hid hh
        clear hh
        have d2 : ¬ c ≤ 57 := by omega
        clear d1
        obtain ⟨e1, e2⟩ := e1
        go_wp2_with fail
        go_round
        case rel =>
          refine ⟨k + 1, m * 16 + hv c, by omega, by go_num, by rw [HH.out]; go_num, ?_, ?_⟩
          · rw [HS.out, Oct.val_snoc, ← HM.out]
          · rw [HS.out]
            intro d hd
            rcases List.mem_append.1 hd with hd | hd
            · exact HD.out d hd
            · rw [List.mem_singleton.1 hd, HH.out]; omega
        case measure => simp [intOf]; omega
      have hh : hv c = 16 := by unfold hv; rw [if_neg d1, if_neg e1]
      have hr : Hid (unhexR s = (0, 3)) := by
        show _ = _; unfold unhexR; rw [if_neg (fun h => by have := h.2.2 _ HME.out; omega)]
      clear hh
      have hcs : c < 48 ∨ (58 ≤ c ∧ c < 97) ∨ 103 ≤ c := by omega
      clear d1 e1
      rcases hcs with g | ⟨g1, g2⟩ | g
      all_goals
        go_wp2_with fail
        go_ret2
        exact ⟨by rw [hr.out]; rfl, rfl⟩
    · obtain rfl : k = s.size := by omega
      have hr : Hid (unhexR s = (m, 0)) := by
        show _ = _; unfold unhexR; rw [if_pos ⟨by omega, by omega, hds⟩, ← hm]
      clear hm hds
      go_wp2_with fail
      go_ret2
      exact ⟨by rw [hr.out]; rfl, rfl⟩

end C01
end Go.Proofs.Ytpamnknfccmgcaa
