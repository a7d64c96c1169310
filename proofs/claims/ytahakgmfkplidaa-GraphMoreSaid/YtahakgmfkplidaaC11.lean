/- Walks of layer 5 and 11: bytes between two; methods; no condition. -/
import Derived.Test.YtahakgmfkplidaaV04
namespace Go.Proofs.Ytahakgmfkplidaa
open Go.RowKit Go.Peri
namespace C11
def inB (lo hi : Nat) (b : UInt8) : Bool := decide (lo ≤ b.toNat) && decide (b.toNat ≤ hi)
theorem inB_in {lo hi : Nat} {b : UInt8} (h : lo ≤ b.toNat ∧ b.toNat ≤ hi) : inB lo hi b = true := by unfold inB; simp [h.1, h.2]
theorem inB_out {lo hi : Nat} {b : UInt8} (h : ¬ (lo ≤ b.toNat ∧ b.toNat ≤ hi)) : inB lo hi b = false := by
  unfold inB
  by_cases h1 : lo ≤ b.toNat
  · have : ¬ b.toNat ≤ hi := fun h2 => h ⟨h1, h2⟩
    simp [this]
  · simp [h1]
def allIn (s : ByteArray) (lo hi : Nat) : Bool := s.data.toList.all (inB lo hi)
set_option maxRecDepth 100000 in
theorem each_any (s : ByteArray) (lo hi : Nat) (r : Bool) (W : World) (hs : s.size ≤ 1000000000000000) (hr : allIn s lo hi = r) :
    Calls Try.prog 48 #[.string s, .int .u8 lo, .int .u8 hi] W fun e w' => e = .returned (.bool r) ∧ W = w' := by
  have HR := hid hr
  clear hr
  go_enter Try.func48, Try.ntmps48
  go_wp2_with fail
  go_loopw [10] (fun i wr => W = wr ∧ ∃ k : Nat, k ≤ s.size ∧ i = .int .i64 k ∧ (s.data.toList.take k).all (inB lo hi) = true) (fun i _ => s.size - (intOf i).toNat)
  case atStart => exact ⟨rfl, 0, Nat.zero_le _, rfl, by simp⟩
  case round =>
    obtain ⟨rfl, k, hk, rfl, hall⟩ := hrel
    have HA := hid hall
    clear hall
    by_cases hlt : k < s.size
    · have hlt' : k < s.data.toList.length := by simpa using hlt
      have e1 : s.data.toList[k] = s[k] := rfl
      have HNext : Hid (inB lo hi s[k] = true → (s.data.toList.take (k + 1)).all (inB lo hi) = true) := hid (fun h => Hd.all_snoc hlt' HA.out (by rw [e1]; exact h))
      have HHit : Hid (inB lo hi s[k] = false → allIn s lo hi = false) := hid (fun h => Hd.all_hit hlt' (by rw [e1]; exact h))
      clear e1
      by_cases g1 : ((s[k]'hlt).toNat : Int) < (lo : Int)
      · have HV := hid (HHit.out (inB_out (by omega)))
        go_wp2_with fail
        go_ret
        exact ⟨by rw [← HR.out, HV.out]; rfl, rfl⟩
      by_cases g2 : (hi : Int) < ((s[k]'hlt).toNat : Int)
      · have HV := hid (HHit.out (inB_out (by omega)))
        go_wp2_with fail
        go_ret
        exact ⟨by rw [← HR.out, HV.out]; rfl, rfl⟩
      · have HV := hid (HNext.out (inB_in (by omega)))
        go_wp2_with fail
        go_roundw
        case rel => exact ⟨by first | rfl | trivial, k + 1, by omega, by go_num, HV.out⟩
        case measure => simp [intOf]; omega
    · obtain rfl : k = s.size := by omega
      have hd : Hid (allIn s lo hi = true) := hid (by have := HA.out; rwa [List.take_of_length_le (by simp)] at this)
      go_wp2_with fail
      go_ret
      exact ⟨by rw [← HR.out, hd.out]; rfl, rfl⟩
def eachR (s : ByteArray) (least most : Nat) (lo hi : Nat) : Bool := decide (least ≤ s.size) && (decide (s.size ≤ most) && allIn s lo hi)
set_option maxRecDepth 100000 in
theorem reach_any (s : ByteArray) (least most lo hi : Nat) (r : Bool) (W : World) (hs : s.size ≤ 1000000000000000) (hr : eachR s least most lo hi = r) :
    Calls Try.prog 41 #[.string s, .int .i64 least, .int .i64 most, .int .u8 lo, .int .u8 hi] W fun e w' => e = .returned (.bool r) ∧ W = w' := by
  unfold eachR at hr
  by_cases h1 : (s.size : Int) < (least : Int)
  · rw [decide_eq_false (by omega), Bool.false_and] at hr
    subst hr
    go_enter Try.func41, Try.ntmps41
    go_wp2_with fail
    go_ret
    exact ⟨rfl, rfl⟩
  rw [decide_eq_true (show least ≤ s.size by omega), Bool.true_and] at hr
  by_cases h2 : (most : Int) < (s.size : Int)
  · rw [decide_eq_false (by omega), Bool.false_and] at hr
    subst hr
    go_enter Try.func41, Try.ntmps41
    go_wp2_with fail
    go_ret
    exact ⟨rfl, rfl⟩
  rw [decide_eq_true (show s.size ≤ most by omega), Bool.true_and] at hr
  have HR := hid hr
  clear hr
  go_enter Try.func41, Try.ntmps41
  go_wp2_with fail
  go_loopw [11] (fun i wr => W = wr ∧ ∃ k : Nat, k ≤ s.size ∧ i = .int .i64 k ∧ (s.data.toList.take k).all (inB lo hi) = true) (fun i _ => s.size - (intOf i).toNat)
  case atStart => exact ⟨rfl, 0, Nat.zero_le _, rfl, by simp⟩
  case round =>
    obtain ⟨rfl, k, hk, rfl, hall⟩ := hrel
    have HA := hid hall
    clear hall
    by_cases hlt : k < s.size
    · have hlt' : k < s.data.toList.length := by simpa using hlt
      have e1 : s.data.toList[k] = s[k] := rfl
      have HNext : Hid (inB lo hi s[k] = true → (s.data.toList.take (k + 1)).all (inB lo hi) = true) := hid (fun h => Hd.all_snoc hlt' HA.out (by rw [e1]; exact h))
      have HHit : Hid (inB lo hi s[k] = false → allIn s lo hi = false) := hid (fun h => Hd.all_hit hlt' (by rw [e1]; exact h))
      clear e1
      by_cases g1 : ((s[k]'hlt).toNat : Int) < (lo : Int)
      · have HV := hid (HHit.out (inB_out (by omega)))
        go_wp2_with fail
        go_ret
        exact ⟨by rw [← HR.out, HV.out]; rfl, rfl⟩
      by_cases g2 : (hi : Int) < ((s[k]'hlt).toNat : Int)
      · have HV := hid (HHit.out (inB_out (by omega)))
        go_wp2_with fail
        go_ret
        exact ⟨by rw [← HR.out, HV.out]; rfl, rfl⟩
      · have HV := hid (HNext.out (inB_in (by omega)))
        go_wp2_with fail
        go_roundw
        case rel => exact ⟨by first | rfl | trivial, k + 1, by omega, by go_num, HV.out⟩
        case measure => simp [intOf]; omega
    · obtain rfl : k = s.size := by omega
      have hd : Hid (allIn s lo hi = true) := hid (by have := HA.out; rwa [List.take_of_length_le (by simp)] at this)
      go_wp2_with fail
      go_ret
      exact ⟨by rw [← HR.out, hd.out]; rfl, rfl⟩
def methodOk (s : ByteArray) : Bool := eachR s 1 8 65 90
def pathOk (s : ByteArray) : Bool := eachR s 1 64 33 126 && decide ((s.data.toList.getD 0 0).toNat = 47)
set_option maxRecDepth 100000 in
theorem rpath_any (s : ByteArray) (r : Bool) (W : World) (hs : s.size ≤ 1000000000000000) (hr : pathOk s = r) :
    Calls Try.prog 31 #[.string s] W fun e w' => e = .returned (.bool r) ∧ W = w' := by
  unfold pathOk at hr
  obtain ⟨q, hq⟩ : ∃ q, eachR s 1 64 33 126 = q := ⟨_, rfl⟩
  have HE := hid (fun w => reach_any s 1 64 33 126 q w hs hq)
  rw [hq] at hr
  cases q
  · rw [Bool.false_and] at hr
    subst hr
    clear hq
    go_enter Try.func31, Try.ntmps31
    go_wp2_with fail
    refine (HE.out _).mono ?_
    rintro e w' ⟨rfl, rfl⟩
    go_wp2_with fail
    go_ret
    exact ⟨rfl, rfl⟩
  · have h0 : 0 < s.size := by
      unfold eachR at hq
      rw [Bool.and_eq_true] at hq
      have := of_decide_eq_true hq.1
      omega
    have hl : 0 < s.data.toList.length := by simpa using h0
    rw [Bool.true_and, List.getD_eq_getElem?_getD, List.getElem?_eq_getElem hl] at hr
    replace hr : decide ((s[0]'h0).toNat = 47) = r := hr
    have hb : (((s[0]'h0).toNat : Int) == 47) = r := by
      rw [← hr]
      by_cases g : (s[0]'h0).toNat = 47
      · rw [g]; rfl
      · rw [decide_eq_false g]; exact beq_eq_false_iff_ne.2 (by omega)
    clear hq hr
    go_enter Try.func31, Try.ntmps31
    go_wp2_with fail
    refine (HE.out _).mono ?_
    rintro e w' ⟨rfl, rfl⟩
    go_wp2_with fail
    go_ret
    exact ⟨rfl, rfl⟩
end C11
end Go.Proofs.Ytahakgmfkplidaa
