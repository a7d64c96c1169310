/- Walks of layer 4 (head): what names and values may be; no condition. -/
import Derived.Test.YtahakgmfkplidaaP04
import Derived.Test.YtahakgmfkplidaaChecked
import Derived.Deep.QuietTactic
namespace Go.Peri
namespace Hd
theorem nameB_in {b : UInt8} (h : b.toNat = 45 ∨ (48 ≤ b.toNat ∧ b.toNat ≤ 57) ∨ (97 ≤ b.toNat ∧ b.toNat ≤ 122)) : nameB b = true := by
  unfold nameB
  simp only [Bool.or_eq_true, Bool.and_eq_true, decide_eq_true_eq, beq_iff_eq, UInt8.le_iff_toNat_le, ← UInt8.toNat_inj]
  simpa [or_assoc] using h
theorem nameB_out {b : UInt8} (h : ¬ (b.toNat = 45 ∨ (48 ≤ b.toNat ∧ b.toNat ≤ 57) ∨ (97 ≤ b.toNat ∧ b.toNat ≤ 122))) : nameB b = false := by
  rw [Bool.eq_false_iff]
  intro h2
  apply h
  unfold nameB at h2
  simp only [Bool.or_eq_true, Bool.and_eq_true, decide_eq_true_eq, beq_iff_eq, UInt8.le_iff_toNat_le, ← UInt8.toNat_inj] at h2
  simpa [or_assoc] using h2
theorem valueB_in {b : UInt8} (h : 32 ≤ b.toNat ∧ b.toNat ≤ 126) : valueB b = true := by
  unfold valueB
  simp only [Bool.and_eq_true, decide_eq_true_eq, UInt8.le_iff_toNat_le]
  simpa using h
theorem valueB_out {b : UInt8} (h : ¬ (32 ≤ b.toNat ∧ b.toNat ≤ 126)) : valueB b = false := by
  rw [Bool.eq_false_iff]
  intro h2
  apply h
  unfold valueB at h2
  simp only [Bool.and_eq_true, decide_eq_true_eq, UInt8.le_iff_toNat_le] at h2
  simpa using h2
theorem notEmpty {s : ByteArray} (h0 : ¬ s.size = 0) : s.toList.isEmpty = false := by
  rw [Bool.eq_false_iff]; intro h
  apply h0
  rw [List.isEmpty_iff, ByteArray.toList_eq] at h
  have := congrArg List.length h
  simpa using this
theorem u8_ne32 (b : UInt8) : (b != 32) = ((b.toNat : Int) != 32) := by
  by_cases h : b = 32
  · subst h; rfl
  · have h2 : ¬ (b.toNat : Int) = 32 := fun e => h (UInt8.toNat_inj.1 (by show b.toNat = 32; omega))
    rw [bne, bne, beq_eq_false_iff_ne.2 h, beq_eq_false_iff_ne.2 h2]
theorem valueOk_ends (s : ByteArray) (h1 : s.size ≤ 64) (hall : s.data.toList.all valueB = true) (hp : 0 < s.size) (hl : s.size - 1 < s.size) :
    valueOk s = ((((s[0]'hp).toNat : Int) != 32) && (((s[s.size - 1]'hl).toNat : Int) != 32)) := by
  have o : ∀ a : UInt8, (some a != some 32) = (a != 32) := fun _ => rfl
  unfold valueOk
  have hne : ¬ s.size = 0 := by omega
  have e1 : s.data.toList.head? = some s[0] := by
    rw [List.head?_eq_getElem?, List.getElem?_eq_getElem (by simpa using hp)]; rfl
  have e2 : s.data.toList.getLast? = some (s[s.size - 1]'hl) := by
    rw [List.getLast?_eq_getElem?, List.getElem?_eq_getElem (by simpa using hl)]; rfl
  rw [hall, e1, e2, decide_eq_true h1, decide_eq_false hne, ← u8_ne32, ← u8_ne32, o, o]
  simp
end Hd
end Go.Peri
namespace Go.Proofs.Ytahakgmfkplidaa
open Go.RowKit Go.Peri
namespace C04

set_option maxRecDepth 100000 in
theorem lit_name (b : UInt8) (w : World) : Calls Try.prog 38 #[.int .u8 b.toNat] w fun e w' => e = .returned (.bool (Hd.nameB b)) ∧ w = w' := by
  have hb := b.toNat_lt
  by_cases h0 : b.toNat = 45
  · rw [h0]
    have HV : Hid (Hd.nameB b = true) := hid (Hd.nameB_in (by omega))
    go_enter Try.func38, Try.ntmps38
    go_wp2
    go_ret
    exact ⟨by rw [HV.out]; first | rfl | (refine ret_bool ?_; simp; omega), rfl⟩
  have e1 : ((b.toNat : Int) == 45) = false := by rw [beq_eq_false_iff_ne]; omega
  by_cases h1 : b.toNat < 48
  · have HV : Hid (Hd.nameB b = false) := hid (Hd.nameB_out (by omega))
    go_enter Try.func38, Try.ntmps38
    go_wp2
    go_ret
    exact ⟨by rw [HV.out]; first | rfl | (refine ret_bool ?_; simp; omega), rfl⟩
  by_cases h2 : b.toNat ≤ 57
  · have HV : Hid (Hd.nameB b = true) := hid (Hd.nameB_in (by omega))
    go_enter Try.func38, Try.ntmps38
    go_wp2
    go_ret
    exact ⟨by rw [HV.out]; first | rfl | (refine ret_bool ?_; simp; omega), rfl⟩
  by_cases h3 : b.toNat < 97
  · have HV : Hid (Hd.nameB b = false) := hid (Hd.nameB_out (by omega))
    go_enter Try.func38, Try.ntmps38
    go_wp2
    go_ret
    exact ⟨by rw [HV.out]; first | rfl | (refine ret_bool ?_; simp; omega), rfl⟩
  by_cases h4 : b.toNat ≤ 122
  · have HV : Hid (Hd.nameB b = true) := hid (Hd.nameB_in (by omega))
    go_enter Try.func38, Try.ntmps38
    go_wp2
    go_ret
    exact ⟨by rw [HV.out]; first | rfl | (refine ret_bool ?_; simp; omega), rfl⟩
  have HV : Hid (Hd.nameB b = false) := hid (Hd.nameB_out (by omega))
  go_enter Try.func38, Try.ntmps38
  go_wp2
  go_ret
  exact ⟨by rw [HV.out]; first | rfl | (refine ret_bool ?_; simp; omega), rfl⟩

set_option maxRecDepth 100000 in
theorem lit_value (b : UInt8) (w : World) : Calls Try.prog 57 #[.int .u8 b.toNat] w fun e w' => e = .returned (.bool (Hd.valueB b)) ∧ w = w' := by
  have hb := b.toNat_lt
  by_cases h1 : b.toNat < 32
  · have HV : Hid (Hd.valueB b = false) := hid (Hd.valueB_out (by omega))
    go_enter Try.func57, Try.ntmps57
    go_wp2
    go_ret
    exact ⟨by rw [HV.out]; first | rfl | (refine ret_bool ?_; simp; omega), rfl⟩
  by_cases h2 : b.toNat ≤ 126
  · have HV : Hid (Hd.valueB b = true) := hid (Hd.valueB_in (by omega))
    go_enter Try.func57, Try.ntmps57
    go_wp2
    go_ret
    exact ⟨by rw [HV.out]; first | rfl | (refine ret_bool ?_; simp; omega), rfl⟩
  have HV : Hid (Hd.valueB b = false) := hid (Hd.valueB_out (by omega))
  go_enter Try.func57, Try.ntmps57
  go_wp2
  go_ret
  exact ⟨by rw [HV.out]; first | rfl | (refine ret_bool ?_; simp; omega), rfl⟩

set_option maxRecDepth 100000 in
theorem every_name (s : ByteArray) (r : Bool) (w : World) (hs : s.size ≤ 1000000000000000) (hr : s.data.toList.all Hd.nameB = r) : Calls Try.prog 37 #[.string s, .func (.func 38) #[] #[]] w fun e w' => e = .returned (.bool r) ∧ w = w' := by
  have HR := hid hr
  clear hr
  go_enter Try.func37, Try.ntmps37
  go_wp2_with fail
  go_loopw [8] (fun i wr => w = wr ∧ ∃ k : Nat, k ≤ s.size ∧ i = .int .i64 k ∧ (s.data.toList.take k).all Hd.nameB = true) (fun i _ => s.size - (intOf i).toNat)
  case atStart => exact ⟨rfl, 0, Nat.zero_le _, rfl, by simp⟩
  case round =>
    obtain ⟨rfl, k, hk, rfl, hall⟩ := hrel
    have HA := hid hall
    clear hall
    by_cases hlt : k < s.size
    · have hlt' : k < s.data.toList.length := by simpa using hlt
      have e1 : s.data.toList[k] = s[k] := rfl
      have HNext : Hid (Hd.nameB s[k] = true → (s.data.toList.take (k + 1)).all Hd.nameB = true) := hid (fun h => Hd.all_snoc hlt' HA.out (by rw [e1]; exact h))
      have HHit : Hid (Hd.nameB s[k] = false → s.data.toList.all Hd.nameB = false) := hid (fun h => Hd.all_hit hlt' (by rw [e1]; exact h))
      clear e1
      have HLit := hid (lit_name s[k] w)
      obtain ⟨bq, hq⟩ : ∃ bq, Hd.nameB s[k] = bq := ⟨_, rfl⟩
      rw [hq] at HLit HNext HHit
      clear hq
      cases bq
      · go_wp2_with (go_at_call 38; refine HLit.out.mono ?_; rintro e w1 ⟨rfl, rfl⟩)
        go_ret
        exact ⟨by rw [← HR.out, HHit.out (by first | rfl | trivial)]; rfl, rfl⟩
      · go_wp2_with (go_at_call 38; refine HLit.out.mono ?_; rintro e w1 ⟨rfl, rfl⟩)
        go_roundw
        case rel => exact ⟨by first | rfl | trivial, k + 1, by omega, by go_num, HNext.out (by first | rfl | trivial)⟩
        case measure => simp [intOf]; omega
    · obtain rfl : k = s.size := by omega
      have hd : Hid (s.data.toList.all Hd.nameB = true) := hid (by have := HA.out; rwa [List.take_of_length_le (by simp)] at this)
      go_wp2_with fail
      go_ret
      exact ⟨by rw [← HR.out, hd.out]; rfl, rfl⟩

set_option maxRecDepth 100000 in
theorem every_value (s : ByteArray) (r : Bool) (w : World) (hs : s.size ≤ 1000000000000000) (hr : s.data.toList.all Hd.valueB = r) : Calls Try.prog 37 #[.string s, .func (.func 57) #[] #[]] w fun e w' => e = .returned (.bool r) ∧ w = w' := by
  have HR := hid hr
  clear hr
  go_enter Try.func37, Try.ntmps37
  go_wp2_with fail
  go_loopw [8] (fun i wr => w = wr ∧ ∃ k : Nat, k ≤ s.size ∧ i = .int .i64 k ∧ (s.data.toList.take k).all Hd.valueB = true) (fun i _ => s.size - (intOf i).toNat)
  case atStart => exact ⟨rfl, 0, Nat.zero_le _, rfl, by simp⟩
  case round =>
    obtain ⟨rfl, k, hk, rfl, hall⟩ := hrel
    have HA := hid hall
    clear hall
    by_cases hlt : k < s.size
    · have hlt' : k < s.data.toList.length := by simpa using hlt
      have e1 : s.data.toList[k] = s[k] := rfl
      have HNext : Hid (Hd.valueB s[k] = true → (s.data.toList.take (k + 1)).all Hd.valueB = true) := hid (fun h => Hd.all_snoc hlt' HA.out (by rw [e1]; exact h))
      have HHit : Hid (Hd.valueB s[k] = false → s.data.toList.all Hd.valueB = false) := hid (fun h => Hd.all_hit hlt' (by rw [e1]; exact h))
      clear e1
      have HLit := hid (lit_value s[k] w)
      obtain ⟨bq, hq⟩ : ∃ bq, Hd.valueB s[k] = bq := ⟨_, rfl⟩
      rw [hq] at HLit HNext HHit
      clear hq
      cases bq
      · go_wp2_with (go_at_call 57; refine HLit.out.mono ?_; rintro e w1 ⟨rfl, rfl⟩)
        go_ret
        exact ⟨by rw [← HR.out, HHit.out (by first | rfl | trivial)]; rfl, rfl⟩
      · go_wp2_with (go_at_call 57; refine HLit.out.mono ?_; rintro e w1 ⟨rfl, rfl⟩)
        go_roundw
        case rel => exact ⟨by first | rfl | trivial, k + 1, by omega, by go_num, HNext.out (by first | rfl | trivial)⟩
        case measure => simp [intOf]; omega
    · obtain rfl : k = s.size := by omega
      have hd : Hid (s.data.toList.all Hd.valueB = true) := hid (by have := HA.out; rwa [List.take_of_length_le (by simp)] at this)
      go_wp2_with fail
      go_ret
      exact ⟨by rw [← HR.out, hd.out]; rfl, rfl⟩

set_option maxRecDepth 100000 in
theorem name_any (s : ByteArray) (w : World) (hs : s.size ≤ 1000000000000000) : Calls Try.prog 29 #[.string s] w fun e w' => e = .returned (.bool (Hd.nameOk s)) ∧ w = w' := by
  by_cases h0 : s.size = 0
  · have hr : Hid (Hd.nameOk s = false) := hid (by unfold Hd.nameOk; simp [h0])
    have hem : s = ByteArray.empty := by
      have : s.data = #[] := Array.eq_empty_of_size_eq_zero h0
      exact ByteArray.ext this
    subst hem
    go_enter Try.func29, Try.ntmps29
    go_wp2_with fail
    go_ret
    exact ⟨by rw [hr.out]; rfl, rfl⟩
  · have t1 : s.toList.isEmpty = false := by
      rw [Bool.eq_false_iff]; intro h
      apply h0
      rw [List.isEmpty_iff, ByteArray.toList_eq] at h
      have := congrArg List.length h
      simpa using this
    have t2 : (!s.toList.isEmpty) = true := by rw [t1]; rfl
    have t3 : ¬ s.toList = [] := by rw [← List.isEmpty_iff, t1]; simp
    by_cases h1 : s.size ≤ 32
    · have hr : Hid (Hd.nameOk s = s.data.toList.all Hd.nameB) := hid (by unfold Hd.nameOk; simp [h1]; omega)
      obtain ⟨r, hq⟩ : ∃ r, s.data.toList.all Hd.nameB = r := ⟨_, rfl⟩
      have HE := hid (every_name s r w hs hq)
      have HQ := hid hq
      clear hq
      go_enter Try.func29, Try.ntmps29
      go_wp2_with fail
      refine HE.out.mono ?_
      rintro e w' ⟨rfl, rfl⟩
      go_wp2_with fail
      go_ret
      exact ⟨by rw [hr.out, HQ.out]; rfl, rfl⟩
    · have hr : Hid (Hd.nameOk s = false) := hid (by unfold Hd.nameOk; simp [h1])
      go_enter Try.func29, Try.ntmps29
      go_wp2_with fail
      go_ret
      exact ⟨by rw [hr.out]; rfl, rfl⟩

set_option maxRecDepth 100000 in
theorem value_any (s : ByteArray) (w : World) (hs : s.size ≤ 1000000000000000) : Calls Try.prog 55 #[.string s] w fun e w' => e = .returned (.bool (Hd.valueOk s)) ∧ w = w' := by
  by_cases h1 : s.size ≤ 64
  · obtain ⟨r, hq⟩ : ∃ r, s.data.toList.all Hd.valueB = r := ⟨_, rfl⟩
    have HE := hid (every_value s r w hs hq)
    have HQ := hid hq
    clear hq
    cases r
    · have hr : Hid (Hd.valueOk s = false) := hid (by unfold Hd.valueOk; rw [HQ.out]; simp)
      go_enter Try.func55, Try.ntmps55
      go_wp2_with fail
      refine HE.out.mono ?_
      rintro e w' ⟨rfl, rfl⟩
      go_wp2_with fail
      go_ret
      exact ⟨by rw [hr.out]; rfl, rfl⟩
    · by_cases h0 : s.size = 0
      · have hem : s = ByteArray.empty := ByteArray.ext (Array.eq_empty_of_size_eq_zero h0)
        have hr : Hid (Hd.valueOk s = true) := hid (by rw [hem]; rfl)
        subst hem
        go_enter Try.func55, Try.ntmps55
        go_wp2_with fail
        refine HE.out.mono ?_
        rintro e w' ⟨rfl, rfl⟩
        go_wp2_with fail
        go_ret
        exact ⟨by rw [hr.out]; rfl, rfl⟩
      · have t1 : s.toList.isEmpty = false := Hd.notEmpty h0
        have t3 : ¬ s.toList = [] := by rw [← List.isEmpty_iff, t1]; simp
        have hpos : 0 < s.size := by omega
        have hlast : s.size - 1 < s.size := by omega
        have hsub : IntKind.i64.wrap ((s.size : Int) - 1) = ((s.size - 1 : Nat) : Int) := by rw [IntWalk.i64_in _ (by omega)]; omega
        have hVal := hid (Hd.valueOk_ends s h1 HQ.out hpos hlast)
        obtain ⟨bq, hbq⟩ : ∃ q, (((s[0]'hpos).toNat : Int) != 32) = q := ⟨_, rfl⟩
        rw [hbq] at hVal
        cases bq
        all_goals
          go_enter Try.func55, Try.ntmps55
          go_wp2_with fail
          refine HE.out.mono ?_
          rintro e w' ⟨rfl, rfl⟩
          go_wp2_with fail
          go_ret
          exact ⟨by rw [hVal.out]; rfl, rfl⟩
  · have hr : Hid (Hd.valueOk s = false) := hid (by unfold Hd.valueOk; simp [h1])
    go_enter Try.func55, Try.ntmps55
    go_wp2_with fail
    go_ret
    exact ⟨by rw [hr.out]; rfl, rfl⟩

set_option maxRecDepth 100000 in
theorem rname_any (s : ByteArray) (w : World) (hs : s.size ≤ 1000000000000000) : Calls Try.prog 22 #[.string s] w fun e w' => e = .returned (.bool (Hd.nameOk s)) ∧ w = w' := by
  by_cases h0 : s.size < 1
  · have hr : Hid (Hd.nameOk s = false) := hid (by unfold Hd.nameOk; simp; omega)
    go_enter Try.func22, Try.ntmps22
    go_wp2_with fail
    go_ret
    exact ⟨by rw [hr.out]; rfl, rfl⟩
  by_cases h1 : 32 < s.size
  · have hr : Hid (Hd.nameOk s = false) := hid (by unfold Hd.nameOk; simp; omega)
    go_enter Try.func22, Try.ntmps22
    go_wp2_with fail
    go_ret
    exact ⟨by rw [hr.out]; rfl, rfl⟩
  have hr : Hid (Hd.nameOk s = s.data.toList.all Hd.nameB) := hid (by unfold Hd.nameOk; simp; omega)
  go_enter Try.func22, Try.ntmps22
  go_wp2_with fail
  go_loopw [3] (fun i wr => w = wr ∧ ∃ k : Nat, k ≤ s.size ∧ i = .int .i64 k ∧ (s.data.toList.take k).all Hd.nameB = true) (fun i _ => s.size - (intOf i).toNat)
  case atStart => exact ⟨rfl, 0, Nat.zero_le _, rfl, by simp⟩
  case round =>
    obtain ⟨rfl, k, hk, rfl, hall⟩ := hrel
    have HA := hid hall
    clear hall
    by_cases hlt : k < s.size
    · have hlt' : k < s.data.toList.length := by simpa using hlt
      have e1 : s.data.toList[k] = s[k] := rfl
      have HNext : Hid (Hd.nameB s[k] = true → (s.data.toList.take (k + 1)).all Hd.nameB = true) := hid (fun h => Hd.all_snoc hlt' HA.out (by rw [e1]; exact h))
      have HHit : Hid (Hd.nameB s[k] = false → Hd.nameOk s = false) := hid (fun h => by rw [hr.out]; exact Hd.all_hit hlt' (by rw [e1]; exact h))
      clear e1
      have hb := (s[k]'hlt).toNat_lt
      by_cases g0 : (s[k]'hlt).toNat = 45
      · have HV := hid (HNext.out (Hd.nameB_in (by omega)))
        have e1 : (((s[k]'hlt).toNat : Int) != 45) = false := by rw [g0]; rfl
        go_wp2_with fail
        go_roundw
        case rel => exact ⟨by first | rfl | trivial, k + 1, by omega, by go_num, HV.out⟩
        case measure => simp [intOf]; omega
      have e1 : (((s[k]'hlt).toNat : Int) != 45) = true := by rw [bne, beq_eq_false_iff_ne.2 (by omega)]; rfl
      by_cases g1 : (s[k]'hlt).toNat < 48
      · have HV := hid (HHit.out (Hd.nameB_out (by omega)))
        go_wp2_with fail
        go_ret
        exact ⟨by rw [HV.out]; rfl, rfl⟩
      by_cases g2 : (s[k]'hlt).toNat ≤ 57
      · have HV := hid (HNext.out (Hd.nameB_in (by omega)))
        go_wp2_with fail
        go_roundw
        case rel => exact ⟨by first | rfl | trivial, k + 1, by omega, by go_num, HV.out⟩
        case measure => simp [intOf]; omega
      by_cases g3 : (s[k]'hlt).toNat < 97
      · have HV := hid (HHit.out (Hd.nameB_out (by omega)))
        go_wp2_with fail
        go_ret
        exact ⟨by rw [HV.out]; rfl, rfl⟩
      by_cases g4 : (s[k]'hlt).toNat ≤ 122
      · have HV := hid (HNext.out (Hd.nameB_in (by omega)))
        go_wp2_with fail
        go_roundw
        case rel => exact ⟨by first | rfl | trivial, k + 1, by omega, by go_num, HV.out⟩
        case measure => simp [intOf]; omega
      · have HV := hid (HHit.out (Hd.nameB_out (by omega)))
        go_wp2_with fail
        go_ret
        exact ⟨by rw [HV.out]; rfl, rfl⟩
    · obtain rfl : k = s.size := by omega
      have hd : Hid (Hd.nameOk s = true) := hid (by have := HA.out; rw [List.take_of_length_le (by simp)] at this; rw [hr.out]; exact this)
      go_wp2_with fail
      go_ret
      exact ⟨by rw [hd.out]; rfl, rfl⟩

set_option maxRecDepth 100000 in
theorem rvalue_any (s : ByteArray) (w : World) (hs : s.size ≤ 1000000000000000) : Calls Try.prog 47 #[.string s] w fun e w' => e = .returned (.bool (Hd.valueOk s)) ∧ w = w' := by
  by_cases h1 : 64 < s.size
  · have hr : Hid (Hd.valueOk s = false) := hid (by unfold Hd.valueOk; simp; omega)
    go_enter Try.func47, Try.ntmps47
    go_wp2_with fail
    go_ret
    exact ⟨by rw [hr.out]; rfl, rfl⟩
  go_enter Try.func47, Try.ntmps47
  go_wp2_with fail
  go_loopw [3] (fun i wr => w = wr ∧ ∃ k : Nat, k ≤ s.size ∧ i = .int .i64 k ∧ (s.data.toList.take k).all Hd.valueB = true) (fun i _ => s.size - (intOf i).toNat)
  case atStart => exact ⟨rfl, 0, Nat.zero_le _, rfl, by simp⟩
  case round =>
    obtain ⟨rfl, k, hk, rfl, hall⟩ := hrel
    have HA := hid hall
    clear hall
    by_cases hlt : k < s.size
    · have hlt' : k < s.data.toList.length := by simpa using hlt
      have e1 : s.data.toList[k] = s[k] := rfl
      have HNext : Hid (Hd.valueB s[k] = true → (s.data.toList.take (k + 1)).all Hd.valueB = true) := hid (fun h => Hd.all_snoc hlt' HA.out (by rw [e1]; exact h))
      have HHit : Hid (Hd.valueB s[k] = false → Hd.valueOk s = false) := hid (fun h => by unfold Hd.valueOk; rw [Hd.all_hit hlt' (by rw [e1]; exact h)]; simp)
      clear e1
      have hb := (s[k]'hlt).toNat_lt
      by_cases g1 : (s[k]'hlt).toNat < 32
      · have HV := hid (HHit.out (Hd.valueB_out (by omega)))
        go_wp2_with fail
        go_ret
        exact ⟨by rw [HV.out]; rfl, rfl⟩
      by_cases g2 : (s[k]'hlt).toNat ≤ 126
      · have HV := hid (HNext.out (Hd.valueB_in (by omega)))
        go_wp2_with fail
        go_roundw
        case rel => exact ⟨by first | rfl | trivial, k + 1, by omega, by go_num, HV.out⟩
        case measure => simp [intOf]; omega
      · have HV := hid (HHit.out (Hd.valueB_out (by omega)))
        go_wp2_with fail
        go_ret
        exact ⟨by rw [HV.out]; rfl, rfl⟩
    · obtain rfl : k = s.size := by omega
      have hall : Hid (s.data.toList.all Hd.valueB = true) := hid (by have := HA.out; rwa [List.take_of_length_le (by simp)] at this)
      by_cases h0 : s.size = 0
      · have hem : s = ByteArray.empty := ByteArray.ext (Array.eq_empty_of_size_eq_zero h0)
        have hr : Hid (Hd.valueOk s = true) := hid (by rw [hem]; rfl)
        have e0 : ((s.size : Int) == 0) = true := by rw [h0]; rfl
        go_wp2_with fail
        go_ret
        exact ⟨by rw [hr.out]; rfl, rfl⟩
      · have e0 : ((s.size : Int) == 0) = false := by rw [beq_eq_false_iff_ne]; omega
        have hpos : 0 < s.size := by omega
        have hlast : s.size - 1 < s.size := by omega
        have hsub : IntKind.i64.wrap ((s.size : Int) - 1) = ((s.size - 1 : Nat) : Int) := by rw [IntWalk.i64_in _ (by omega)]; omega
        have hVal := hid (Hd.valueOk_ends s (by omega) hall.out hpos hlast)
        obtain ⟨bq, hbq⟩ : ∃ q, (((s[0]'hpos).toNat : Int) != 32) = q := ⟨_, rfl⟩
        rw [hbq] at hVal
        cases bq
        all_goals
          go_wp2_with fail
          go_ret
          exact ⟨by rw [hVal.out]; rfl, rfl⟩

end C04
end Go.Proofs.Ytahakgmfkplidaa
