/- Walks of layer 5 and 11: bytes between two; methods; no condition. -/
import Derived.Test.YthmopkaecbebpaaV04
namespace Go.Proofs.Ythmopkaecbebpaa
open Go.RowKit Go.Peri
namespace C11
def inB (lo hi : Nat) (b : UInt8) : Bool := decide (lo ≤ b.toNat) && decide (b.toNat ≤ hi)
theorem inB_in {lo hi : Nat} {b : UInt8} (h : lo ≤ b.toNat ∧ b.toNat ≤ hi) : inB lo hi b = true := by unfold inB; simp [h.1, h.2]
theorem inB_out {lo hi : Nat} {b : UInt8} (h : ¬ (lo ≤ b.toNat ∧ b.toNat ≤ hi)) : inB lo hi b = false := by
  unfold inB
  by_cases h1 : lo ≤ b.toNat
  · have : ¬ b.toNat ≤ hi := fun h2 => h ⟨h1, h2⟩
    simp [this]
  · simp [h1]
def allIn (s : ByteArray) (lo hi : Nat) : Bool := s.data.toList.all (inB lo hi)
set_option maxRecDepth 100000 in
theorem each_any (s : ByteArray) (lo hi : Nat) (r : Bool) (W : World) (hs : s.size ≤ 1000000000000000) (hr : allIn s lo hi = r) :
    Calls Try.prog 199 #[.string s, .int .u8 lo, .int .u8 hi] W fun e w' => e = .returned (.bool r) ∧ W = w' := by
  have HR := hid hr
  clear hr
  go_enter Try.func199, Try.ntmps199
  go_wp2_with fail
  go_loopw [10] (fun i wr => W = wr ∧ ∃ k : Nat, k ≤ s.size ∧ i = .int .i64 k ∧ (s.data.toList.take k).all (inB lo hi) = true) (fun i _ => s.size - (intOf i).toNat)
  case atStart => exact ⟨rfl, 0, Nat.zero_le _, rfl, by simp⟩
  case round =>
    obtain ⟨rfl, k, hk, rfl, hall⟩ := hrel
    have HA := hid hall
    clear hall
    by_cases hlt : k < s.size
    · have hlt' : k < s.data.toList.length := by simpa using hlt
      have e1 : s.data.toList[k] = s[k] := rfl
      have HNext : Hid (inB lo hi s[k] = true → (s.data.toList.take (k + 1)).all (inB lo hi) = true) := hid (fun h => Hd.all_snoc hlt' HA.out (by rw [e1]; exact h))
      have HHit : Hid (inB lo hi s[k] = false → allIn s lo hi = false) := hid (fun h => Hd.all_hit hlt' (by rw [e1]; exact h))
      clear e1
      by_cases g1 : ((s[k]'hlt).toNat : Int) < (lo : Int)
      · have HV := hid (HHit.out (inB_out (by omega)))
        go_wp2_with fail
        go_ret
        exact ⟨by rw [← HR.out, HV.out]; rfl, rfl⟩
      by_cases g2 : (hi : Int) < ((s[k]'hlt).toNat : Int)
      · have HV := hid (HHit.out (inB_out (by omega)))
        go_wp2_with fail
        go_ret
        exact ⟨by rw [← HR.out, HV.out]; rfl, rfl⟩
      · have HV := hid (HNext.out (inB_in (by omega)))
        go_wp2_with fail
        go_roundw
        case rel => exact ⟨by first | rfl | trivial, k + 1, by omega, by go_num, HV.out⟩
        case measure => simp [intOf]; omega
    · obtain rfl : k = s.size := by omega
      have hd : Hid (allIn s lo hi = true) := hid (by have := HA.out; rwa [List.take_of_length_le (by simp)] at this)
      go_wp2_with fail
      go_ret
      exact ⟨by rw [← HR.out, hd.out]; rfl, rfl⟩
def eachR (s : ByteArray) (least most : Nat) (lo hi : Nat) : Bool := decide (least ≤ s.size) && (decide (s.size ≤ most) && allIn s lo hi)
def methodOk (s : ByteArray) : Bool := eachR s 1 8 65 90
def pathOk (s : ByteArray) : Bool := eachR s 1 64 33 126 && decide ((s.data.toList.getD 0 0).toNat = 47)
end C11
end Go.Proofs.Ythmopkaecbebpaa
