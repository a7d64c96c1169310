/- Walks of layer 1 (octet): the number of digits; no condition. -/
import Derived.Test.YtpamnknfccmgcaaF01
namespace Go.Proofs.Ytpamnknfccmgcaa
open Go.RowKit Go.Peri
namespace C01

theorem or16 (m x : Nat) (hm : m < 16 ^ 15) (hx : x < 16) : bits .or .u64 ((m : Int) * 16) (x : Int) = ((m * 16 + x : Nat) : Int) := by
  have h := or_join 4 m x (by omega) hx
  simpa using h

/-- The values of the digits of a text. -/
def hvs (s : ByteArray) (k : Nat) : List Nat := (bytesAt s 0 k).map hv
theorem hvs_succ (s : ByteArray) (k : Nat) (h : k < s.size) : hvs s (k + 1) = hvs s k ++ [hv (s[k]'h).toNat] := by
  unfold hvs
  rw [bytesAt_succ s 0 k (by omega), List.map_append]
  simp
theorem hvs_len (s : ByteArray) (k : Nat) : (hvs s k).length ≤ k := by
  unfold hvs; rw [List.length_map]; exact bytesAt_len s 0 k

def unhexR (s : ByteArray) : Nat × Int :=
  if 1 ≤ s.size ∧ s.size ≤ 16 ∧ ∀ d ∈ hvs s s.size, d < 16 then (Oct.val 16 (hvs s s.size), 0) else (0, 3)

theorem hvs_mem (s : ByteArray) (k : Nat) (h : k < s.size) : hv (s[k]'h).toNat ∈ hvs s s.size := by
  unfold hvs bytesAt
  rw [List.drop_zero, List.map_map, show s.size = s.data.toList.length from (Array.length_toList).symm, List.take_length]
  refine List.mem_map.2 ⟨s[k]'h, ?_, rfl⟩
  exact Array.mem_toList_iff.2 (Array.getElem_mem h)

set_option maxRecDepth 100000 in
theorem unhex_any (s : ByteArray) (W : World) (hs : s.size ≤ 1000000000000000) :
    Calls Try.prog 130 #[.string s] W fun e w' => e = .returned (.tuple #[.int .u64 (unhexR s).1, .int .i64 (unhexR s).2]) ∧ W = w' := by
  by_cases h1 : s.size < 1
  · have hr : Hid (unhexR s = (0, 3)) := by show _ = _; unfold unhexR; rw [if_neg (by omega)]
    have h1' : (s.size : Int) < 1 := by omega
    clear h1
    go_enter Try.func130, Try.ntmps130
    go_wp2_with fail
    go_ret2
    exact ⟨by rw [hr.out]; rfl, rfl⟩
  by_cases h2 : 16 < s.size
  · have hr : Hid (unhexR s = (0, 3)) := by show _ = _; unfold unhexR; rw [if_neg (by omega)]
    go_enter Try.func130, Try.ntmps130
    go_wp2_with fail
    go_ret2
    exact ⟨by rw [hr.out]; rfl, rfl⟩
  have g1 : ¬ (s.size : Int) < 1 := by omega
  go_enter Try.func130, Try.ntmps130
  go_wp2_with fail
  go_loop [4, 17] (fun x i => ∃ k m : Nat, k ≤ s.size ∧ i = .int .i64 k ∧ x = .int .u64 m ∧ m = Oct.val 16 (hvs s k) ∧ (∀ d ∈ hvs s k, d < 16)) (fun _ i => s.size - (intOf i).toNat)
  case atStart => exact ⟨0, 0, Nat.zero_le _, rfl, rfl, by simp [hvs, bytesAt, Oct.val], by simp [hvs, bytesAt]⟩
  case round =>
    obtain ⟨k, m, hk, rfl, rfl, hm, hds⟩ := hrel
    by_cases hlt : k < s.size
    · have hb : m < 16 ^ 15 := by
        have h3 := Oct.val_bound 16 _ hds k (by decide) (hvs_len s k)
        rw [hm]; exact Nat.lt_of_lt_of_le h3 (Nat.pow_le_pow_right (by decide) (by omega))
      have HS := hid (hvs_succ s k hlt)
      have HME := hid (hvs_mem s k hlt)
      have HM := hid hm
      have HD := hid hds
      have hc : (s[k]'hlt).toNat < 256 := (s[k]'hlt).toNat_lt
      clear hm hds
      have htx := fun w => value_any (s[k]'hlt).toNat w hc
      have HT := hid htx
      clear htx
      by_cases hv16 : hv (s[k]'hlt).toNat < 16
      · have HOR := hid (or16 m (hv (s[k]'hlt).toNat) hb hv16)
        have hb' : (m : Int) * 16 ≤ 18446744073709551615 := by omega
        have hb0 : (0 : Int) ≤ (m : Int) := by omega
        have hv' : ¬ (15 : Int) < (hv (s[k]'hlt).toNat : Int) := by omega
        clear hb
        go_wp2_with fail
        refine (HT.out _).mono ?_
        rintro e w' ⟨rfl, rfl⟩
        go_wp2_with fail
        go_round
        case rel =>
          refine ⟨k + 1, m * 16 + hv (s[k]'hlt).toNat, by omega, by go_num, by rw [HOR.out], ?_, ?_⟩
          · rw [HS.out, Oct.val_snoc, ← HM.out]
          · rw [HS.out]
            intro d hd
            rcases List.mem_append.1 hd with hd | hd
            · exact HD.out d hd
            · rw [List.mem_singleton.1 hd]; exact hv16
        case measure => simp [intOf]; omega
      · have hr : Hid (unhexR s = (0, 3)) := by
          show _ = _; unfold unhexR; rw [if_neg (fun h => hv16 (h.2.2 _ HME.out))]
        have hv' : (15 : Int) < (hv (s[k]'hlt).toNat : Int) := by omega
        clear hb
        go_wp2_with fail
        refine (HT.out _).mono ?_
        rintro e w' ⟨rfl, rfl⟩
        go_wp2_with fail
        go_ret2
        exact ⟨by rw [hr.out]; rfl, rfl⟩
    · obtain rfl : k = s.size := by omega
      have hr : Hid (unhexR s = (m, 0)) := by
        show _ = _; unfold unhexR; rw [if_pos ⟨by omega, by omega, hds⟩, ← hm]
      clear hm hds
      go_wp2_with fail
      go_ret2
      exact ⟨by rw [hr.out]; rfl, rfl⟩
end C01
end Go.Proofs.Ytpamnknfccmgcaa
