/- Walks of layer 1 (octet): the number of bytes; no condition. -/
import Derived.Test.YtnmfdkkdnaeikaaC01
namespace Go.Proofs.Ytnmfdkkdnaeikaa
open Go.RowKit Go.Peri
namespace C01

def bytesAt (s : ByteArray) (at_ k : Nat) : List Nat := ((s.data.toList.drop at_).take k).map UInt8.toNat

theorem bytesAt_succ (s : ByteArray) (at_ k : Nat) (h : at_ + k < s.size) : bytesAt s at_ (k + 1) = bytesAt s at_ k ++ [(s[at_ + k]'h).toNat] := by
  unfold bytesAt
  have h' : k < (s.data.toList.drop at_).length := by
    rw [List.length_drop, Array.length_toList]; have : s.data.size = s.size := rfl; omega
  rw [List.take_succ_eq_append_getElem h', List.map_append]
  congr 1
  simp
  rfl
theorem bytesAt_lt (s : ByteArray) (at_ k : Nat) : ∀ d ∈ bytesAt s at_ k, d < 256 := by
  intro d hd
  obtain ⟨x, _, rfl⟩ := List.mem_map.1 hd
  exact x.toNat_lt
theorem bytesAt_len (s : ByteArray) (at_ k : Nat) : (bytesAt s at_ k).length ≤ k := by
  unfold bytesAt; rw [List.length_map, List.length_take]; omega
theorem val_bytesAt (s : ByteArray) (at_ k : Nat) : Oct.val 256 (bytesAt s at_ k) < 256 ^ k :=
  Oct.val_bound 256 _ (bytesAt_lt s at_ k) k (by decide) (bytesAt_len s at_ k)

theorem or_join (i m x : Nat) (hm : m * 2 ^ i + x < 18446744073709551616) (hx : x < 2 ^ i) : bits .or .u64 (((m * 2 ^ i : Nat)) : Int) (x : Int) = ((m * 2 ^ i + x : Nat) : Int) := by
  rw [u64_or_nat _ _ (by omega) (by omega), nat_join i _ _ (Nat.mul_mod_left _ _) hx]
theorem or256 (m : Nat) (x : UInt8) (hm : m < 256 ^ 7) : bits .or .u64 ((m : Int) * 256) (IntKind.u64.wrap (x.toNat : Int)) = ((m * 256 + x.toNat : Nat) : Int) := by
  have hx : x.toNat < 2 ^ 8 := x.toNat_lt
  have hw : IntKind.u64.wrap (x.toNat : Int) = (x.toNat : Int) := IntWalk.u64_in _ (by omega)
  have h := or_join 8 m x.toNat (by omega) hx
  rw [hw]
  simpa using h

set_option maxRecDepth 100000 in
theorem get_ok (s : ByteArray) (at_ w : Nat) (W : World) (h1 : 1 ≤ w) (h2 : w ≤ 8) (hs : s.size ≤ 1000000000000000) (h : at_ + w ≤ s.size) :
    Calls Try.prog 20 #[.string s, .int .i64 at_, .int .i64 w] W fun e w' => e = .returned (.tuple #[.int .u64 (Oct.val 256 (bytesAt s at_ w) : Nat), .int .i64 0]) ∧ W = w' := by
  go_enter Try.func20, Try.ntmps20
  go_wp2_with fail
  go_loop [8, 25] (fun x i => ∃ k m : Nat, k ≤ w ∧ i = .int .i64 k ∧ x = .int .u64 m ∧ m = Oct.val 256 (bytesAt s at_ k)) (fun _ i => w - (intOf i).toNat)
  case atStart => exact ⟨0, 0, Nat.zero_le _, rfl, rfl, by simp [bytesAt, Oct.val]⟩
  case round =>
    obtain ⟨k, m, hk, rfl, rfl, hm⟩ := hrel
    by_cases hlt : k < w
    · have hb : m < 256 ^ 7 := by
        have h3 := val_bytesAt s at_ k
        rw [hm]; exact Nat.lt_of_lt_of_le h3 (Nat.pow_le_pow_right (by decide) (by omega))
      have hidx : at_ + k < s.size := by omega
      have HS := hid (bytesAt_succ s at_ k hidx)
      have HM := hid hm
      clear hm
      have HOR := hid (or256 m (s[at_ + k]'hidx) hb)
      have hb' : (m : Int) * 256 ≤ 18446744073709551615 := by omega
      have hb0 : (0 : Int) ≤ (m : Int) := by omega
      clear hb
      go_wp2_with fail
      go_round
      case rel =>
        refine ⟨k + 1, m * 256 + (s[at_ + k]'hidx).toNat, by omega, by go_num, by rw [HOR.out], ?_⟩
        rw [HS.out, Oct.val_snoc, ← HM.out]
      case measure => simp [intOf]; omega
    · obtain rfl : k = w := by omega
      have HM := hid hm
      clear hm
      go_wp2_with fail
      go_ret2
      exact ⟨by rw [HM.out]; rfl, rfl⟩

def getR (s : ByteArray) (at_ w : Int) : Nat × Int :=
  if 1 ≤ w ∧ w ≤ 8 ∧ 0 ≤ at_ then (if at_ + w ≤ s.size then (Oct.val 256 (bytesAt s at_.toNat w.toNat), 0) else (0, 5)) else (0, 2)

set_option maxRecDepth 100000 in
theorem get_any (s : ByteArray) (at_ w : Int) (W : World) (hs : s.size ≤ 1000000000000000) (ha : -9223372036854775808 ≤ at_ ∧ at_ ≤ 9223372036854775807) :
    Calls Try.prog 20 #[.string s, .int .i64 at_, .int .i64 w] W fun e w' => e = .returned (.tuple #[.int .u64 (getR s at_ w).1, .int .i64 (getR s at_ w).2]) ∧ W = w' := by
  by_cases h1 : w < 1
  · have hr : Hid (getR s at_ w = (0, 2)) := by show _ = _; unfold getR; rw [if_neg (by omega)]
    go_enter Try.func20, Try.ntmps20
    go_wp2_with fail
    go_ret2
    exact ⟨by rw [hr.out]; rfl, rfl⟩
  by_cases h2 : 8 < w
  · have hr : Hid (getR s at_ w = (0, 2)) := by show _ = _; unfold getR; rw [if_neg (by omega)]
    go_enter Try.func20, Try.ntmps20
    go_wp2_with fail
    go_ret2
    exact ⟨by rw [hr.out]; rfl, rfl⟩
  by_cases h3 : at_ < 0
  · have hr : Hid (getR s at_ w = (0, 2)) := by show _ = _; unfold getR; rw [if_neg (by omega)]
    go_enter Try.func20, Try.ntmps20
    go_wp2_with fail
    go_ret2
    exact ⟨by rw [hr.out]; rfl, rfl⟩
  obtain ⟨k, rfl⟩ := Int.eq_ofNat_of_zero_le (show 0 ≤ w by omega)
  obtain ⟨a, rfl⟩ := Int.eq_ofNat_of_zero_le (show 0 ≤ at_ by omega)
  by_cases h4 : (a : Int) + k ≤ s.size
  · have hr : getR s a k = (Oct.val 256 (bytesAt s a k), 0) := by unfold getR; rw [if_pos (by omega), if_pos h4]; rfl
    rw [hr]
    exact get_ok s a k W (by omega) (by omega) hs (by omega)
  · have hr : Hid (getR s a k = (0, 5)) := by show _ = _; unfold getR; rw [if_pos (by omega), if_neg h4]
    have h5 : (s.size : Int) - (k : Int) < (a : Int) := by omega
    clear h4
    go_enter Try.func20, Try.ntmps20
    go_wp2_with fail
    go_ret2
    exact ⟨by rw [hr.out]; rfl, rfl⟩
end C01
end Go.Proofs.Ytnmfdkkdnaeikaa
