/- Walks of layer 4 (head): what names and values may be; no condition. General lemmas on rows that are owned, each in a block of its own, beside others. No program in sight. Plain facts of layer 4 (head), continued. No program in sight. Walks of layer 4 (head): lists of headers: whether they may be, where one stands, its values, one more, alike; no condition. Walks of layer 4 (head): the values of a name, one header more, lists alike; no condition. General lemmas: cells of a block written one after another; 'clear(s)'. No program in sight. Walks of layer 4 (head): headers without some names; no condition. Walks of layer 4 (head): headers without some names (slices.DeleteFunc); no condition. Walks of layer 4 (head): headers without some names, with just one of a name; no condition. Walks of layer 4 (head): Set; the reference's Without and Set; no condition. Walks of layer 4 (head): headers with just one of a name; no condition. Walks of layer 4 (head): the reference's Set; lists alike; few headers; no condition. Walks of layer 4 (head): lists alike; few headers; no condition. Readings of slices, whatever is known of their blocks; lists of headers, of texts, alike; no condition. Walks of layer 4 (head): the laws; no condition. -/
import Derived.Test.YtmmmaldpalhjeaaMg01
import Derived.Test.YtmmmaldpalhjeaaChecked
import Derived.Deep.QuietTactic
import Derived.Maps.AppendAt
import Derived.BigQuiet
import Derived.Laws.IdiomCopy
import Derived.Deep.DrawnRows
namespace Go.Peri
namespace Hd
theorem nameB_in {b : UInt8} (h : b.toNat = 45 ∨ (48 ≤ b.toNat ∧ b.toNat ≤ 57) ∨ (97 ≤ b.toNat ∧ b.toNat ≤ 122)) : nameB b = true := by
  unfold nameB
  simp only [Bool.or_eq_true, Bool.and_eq_true, decide_eq_true_eq, beq_iff_eq, UInt8.le_iff_toNat_le, ← UInt8.toNat_inj]
  simpa [or_assoc] using h
theorem nameB_out {b : UInt8} (h : ¬ (b.toNat = 45 ∨ (48 ≤ b.toNat ∧ b.toNat ≤ 57) ∨ (97 ≤ b.toNat ∧ b.toNat ≤ 122))) : nameB b = false := by
  rw [Bool.eq_false_iff]
  intro h2
  apply h
  unfold nameB at h2
  simp only [Bool.or_eq_true, Bool.and_eq_true, decide_eq_true_eq, beq_iff_eq, UInt8.le_iff_toNat_le, ← UInt8.toNat_inj] at h2
  simpa [or_assoc] using h2
theorem valueB_in {b : UInt8} (h : 32 ≤ b.toNat ∧ b.toNat ≤ 126) : valueB b = true := by
  unfold valueB
  simp only [Bool.and_eq_true, decide_eq_true_eq, UInt8.le_iff_toNat_le]
  simpa using h
theorem valueB_out {b : UInt8} (h : ¬ (32 ≤ b.toNat ∧ b.toNat ≤ 126)) : valueB b = false := by
  rw [Bool.eq_false_iff]
  intro h2
  apply h
  unfold valueB at h2
  simp only [Bool.and_eq_true, decide_eq_true_eq, UInt8.le_iff_toNat_le] at h2
  simpa using h2
theorem notEmpty {s : ByteArray} (h0 : ¬ s.size = 0) : s.toList.isEmpty = false := by
  rw [Bool.eq_false_iff]; intro h
  apply h0
  rw [List.isEmpty_iff, ByteArray.toList_eq] at h
  have := congrArg List.length h
  simpa using this
theorem u8_ne32 (b : UInt8) : (b != 32) = ((b.toNat : Int) != 32) := by
  by_cases h : b = 32
  · subst h; rfl
  · have h2 : ¬ (b.toNat : Int) = 32 := fun e => h (UInt8.toNat_inj.1 (by show b.toNat = 32; omega))
    rw [bne, bne, beq_eq_false_iff_ne.2 h, beq_eq_false_iff_ne.2 h2]
theorem valueOk_ends (s : ByteArray) (h1 : s.size ≤ 64) (hall : s.data.toList.all valueB = true) (hp : 0 < s.size) (hl : s.size - 1 < s.size) :
    valueOk s = ((((s[0]'hp).toNat : Int) != 32) && (((s[s.size - 1]'hl).toNat : Int) != 32)) := by
  have o : ∀ a : UInt8, (some a != some 32) = (a != 32) := fun _ => rfl
  unfold valueOk
  have hne : ¬ s.size = 0 := by omega
  have e1 : s.data.toList.head? = some s[0] := by
    rw [List.head?_eq_getElem?, List.getElem?_eq_getElem (by simpa using hp)]; rfl
  have e2 : s.data.toList.getLast? = some (s[s.size - 1]'hl) := by
    rw [List.getLast?_eq_getElem?, List.getElem?_eq_getElem (by simpa using hl)]; rfl
  rw [hall, e1, e2, decide_eq_true h1, decide_eq_false hne, ← u8_ne32, ← u8_ne32, o, o]
  simp
end Hd
end Go.Peri
namespace Go.Proofs.Ytmmmaldpalhjeaa
open Go.RowKit Go.Peri
namespace C04

set_option maxRecDepth 100000 in
theorem lit_name (b : UInt8) (w : World) : Calls Try.prog 185 #[.int .u8 b.toNat] w fun e w' => e = .returned (.bool (Hd.nameB b)) ∧ w = w' := by
  have hb := b.toNat_lt
  by_cases h0 : b.toNat = 45
  · rw [h0]
    have HV : Hid (Hd.nameB b = true) := hid (Hd.nameB_in (by omega))
    go_enter Try.func185, Try.ntmps185
    go_wp2
    go_ret
    exact ⟨by rw [HV.out]; first | rfl | (refine ret_bool ?_; simp; omega), rfl⟩
  have e1 : ((b.toNat : Int) == 45) = false := by rw [beq_eq_false_iff_ne]; omega
  by_cases h1 : b.toNat < 48
  · have HV : Hid (Hd.nameB b = false) := hid (Hd.nameB_out (by omega))
    go_enter Try.func185, Try.ntmps185
    go_wp2
    go_ret
    exact ⟨by rw [HV.out]; first | rfl | (refine ret_bool ?_; simp; omega), rfl⟩
  by_cases h2 : b.toNat ≤ 57
  · have HV : Hid (Hd.nameB b = true) := hid (Hd.nameB_in (by omega))
    go_enter Try.func185, Try.ntmps185
    go_wp2
    go_ret
    exact ⟨by rw [HV.out]; first | rfl | (refine ret_bool ?_; simp; omega), rfl⟩
  by_cases h3 : b.toNat < 97
  · have HV : Hid (Hd.nameB b = false) := hid (Hd.nameB_out (by omega))
    go_enter Try.func185, Try.ntmps185
    go_wp2
    go_ret
    exact ⟨by rw [HV.out]; first | rfl | (refine ret_bool ?_; simp; omega), rfl⟩
  by_cases h4 : b.toNat ≤ 122
  · have HV : Hid (Hd.nameB b = true) := hid (Hd.nameB_in (by omega))
    go_enter Try.func185, Try.ntmps185
    go_wp2
    go_ret
    exact ⟨by rw [HV.out]; first | rfl | (refine ret_bool ?_; simp; omega), rfl⟩
  have HV : Hid (Hd.nameB b = false) := hid (Hd.nameB_out (by omega))
  go_enter Try.func185, Try.ntmps185
  go_wp2
  go_ret
  exact ⟨by rw [HV.out]; first | rfl | (refine ret_bool ?_; simp; omega), rfl⟩

set_option maxRecDepth 100000 in
theorem lit_value (b : UInt8) (w : World) : Calls Try.prog 247 #[.int .u8 b.toNat] w fun e w' => e = .returned (.bool (Hd.valueB b)) ∧ w = w' := by
  have hb := b.toNat_lt
  by_cases h1 : b.toNat < 32
  · have HV : Hid (Hd.valueB b = false) := hid (Hd.valueB_out (by omega))
    go_enter Try.func247, Try.ntmps247
    go_wp2
    go_ret
    exact ⟨by rw [HV.out]; first | rfl | (refine ret_bool ?_; simp; omega), rfl⟩
  by_cases h2 : b.toNat ≤ 126
  · have HV : Hid (Hd.valueB b = true) := hid (Hd.valueB_in (by omega))
    go_enter Try.func247, Try.ntmps247
    go_wp2
    go_ret
    exact ⟨by rw [HV.out]; first | rfl | (refine ret_bool ?_; simp; omega), rfl⟩
  have HV : Hid (Hd.valueB b = false) := hid (Hd.valueB_out (by omega))
  go_enter Try.func247, Try.ntmps247
  go_wp2
  go_ret
  exact ⟨by rw [HV.out]; first | rfl | (refine ret_bool ?_; simp; omega), rfl⟩

set_option maxRecDepth 100000 in
theorem every_name (s : ByteArray) (r : Bool) (w : World) (hs : s.size ≤ 1000000000000000) (hr : s.data.toList.all Hd.nameB = r) : Calls Try.prog 184 #[.string s, .func (.func 185) #[] #[]] w fun e w' => e = .returned (.bool r) ∧ w = w' := by
  have HR := hid hr
  clear hr
  go_enter Try.func184, Try.ntmps184
  go_wp2_with fail
  go_loopw [8] (fun i wr => w = wr ∧ ∃ k : Nat, k ≤ s.size ∧ i = .int .i64 k ∧ (s.data.toList.take k).all Hd.nameB = true) (fun i _ => s.size - (intOf i).toNat)
  case atStart => exact ⟨rfl, 0, Nat.zero_le _, rfl, by simp⟩
  case round =>
    obtain ⟨rfl, k, hk, rfl, hall⟩ := hrel
    have HA := hid hall
    clear hall
    by_cases hlt : k < s.size
    · have hlt' : k < s.data.toList.length := by simpa using hlt
      have e1 : s.data.toList[k] = s[k] := rfl
      have HNext : Hid (Hd.nameB s[k] = true → (s.data.toList.take (k + 1)).all Hd.nameB = true) := hid (fun h => Hd.all_snoc hlt' HA.out (by rw [e1]; exact h))
      have HHit : Hid (Hd.nameB s[k] = false → s.data.toList.all Hd.nameB = false) := hid (fun h => Hd.all_hit hlt' (by rw [e1]; exact h))
      clear e1
      have HLit := hid (lit_name s[k] w)
      obtain ⟨bq, hq⟩ : ∃ bq, Hd.nameB s[k] = bq := ⟨_, rfl⟩
      rw [hq] at HLit HNext HHit
      clear hq
      cases bq
      · go_wp2_with (go_at_call 185; refine HLit.out.mono ?_; rintro e w1 ⟨rfl, rfl⟩)
        go_ret
        exact ⟨by rw [← HR.out, HHit.out (by first | rfl | trivial)]; rfl, rfl⟩
      · go_wp2_with (go_at_call 185; refine HLit.out.mono ?_; rintro e w1 ⟨rfl, rfl⟩)
        go_roundw
        case rel => exact ⟨by first | rfl | trivial, k + 1, by omega, by go_num, HNext.out (by first | rfl | trivial)⟩
        case measure => simp [intOf]; omega
    · obtain rfl : k = s.size := by omega
      have hd : Hid (s.data.toList.all Hd.nameB = true) := hid (by have := HA.out; rwa [List.take_of_length_le (by simp)] at this)
      go_wp2_with fail
      go_ret
      exact ⟨by rw [← HR.out, hd.out]; rfl, rfl⟩

set_option maxRecDepth 100000 in
theorem every_value (s : ByteArray) (r : Bool) (w : World) (hs : s.size ≤ 1000000000000000) (hr : s.data.toList.all Hd.valueB = r) : Calls Try.prog 184 #[.string s, .func (.func 247) #[] #[]] w fun e w' => e = .returned (.bool r) ∧ w = w' := by
  have HR := hid hr
  clear hr
  go_enter Try.func184, Try.ntmps184
  go_wp2_with fail
  go_loopw [8] (fun i wr => w = wr ∧ ∃ k : Nat, k ≤ s.size ∧ i = .int .i64 k ∧ (s.data.toList.take k).all Hd.valueB = true) (fun i _ => s.size - (intOf i).toNat)
  case atStart => exact ⟨rfl, 0, Nat.zero_le _, rfl, by simp⟩
  case round =>
    obtain ⟨rfl, k, hk, rfl, hall⟩ := hrel
    have HA := hid hall
    clear hall
    by_cases hlt : k < s.size
    · have hlt' : k < s.data.toList.length := by simpa using hlt
      have e1 : s.data.toList[k] = s[k] := rfl
      have HNext : Hid (Hd.valueB s[k] = true → (s.data.toList.take (k + 1)).all Hd.valueB = true) := hid (fun h => Hd.all_snoc hlt' HA.out (by rw [e1]; exact h))
      have HHit : Hid (Hd.valueB s[k] = false → s.data.toList.all Hd.valueB = false) := hid (fun h => Hd.all_hit hlt' (by rw [e1]; exact h))
      clear e1
      have HLit := hid (lit_value s[k] w)
      obtain ⟨bq, hq⟩ : ∃ bq, Hd.valueB s[k] = bq := ⟨_, rfl⟩
      rw [hq] at HLit HNext HHit
      clear hq
      cases bq
      · go_wp2_with (go_at_call 247; refine HLit.out.mono ?_; rintro e w1 ⟨rfl, rfl⟩)
        go_ret
        exact ⟨by rw [← HR.out, HHit.out (by first | rfl | trivial)]; rfl, rfl⟩
      · go_wp2_with (go_at_call 247; refine HLit.out.mono ?_; rintro e w1 ⟨rfl, rfl⟩)
        go_roundw
        case rel => exact ⟨by first | rfl | trivial, k + 1, by omega, by go_num, HNext.out (by first | rfl | trivial)⟩
        case measure => simp [intOf]; omega
    · obtain rfl : k = s.size := by omega
      have hd : Hid (s.data.toList.all Hd.valueB = true) := hid (by have := HA.out; rwa [List.take_of_length_le (by simp)] at this)
      go_wp2_with fail
      go_ret
      exact ⟨by rw [← HR.out, hd.out]; rfl, rfl⟩

set_option maxRecDepth 100000 in
theorem name_any (s : ByteArray) (w : World) (hs : s.size ≤ 1000000000000000) : Calls Try.prog 140 #[.string s] w fun e w' => e = .returned (.bool (Hd.nameOk s)) ∧ w = w' := by
  by_cases h0 : s.size = 0
  · have hr : Hid (Hd.nameOk s = false) := hid (by unfold Hd.nameOk; simp [h0])
    have hem : s = ByteArray.empty := by
      have : s.data = #[] := Array.eq_empty_of_size_eq_zero h0
      exact ByteArray.ext this
    subst hem
    go_enter Try.func140, Try.ntmps140
    go_wp2_with fail
    go_ret
    exact ⟨by rw [hr.out]; rfl, rfl⟩
  · have t1 : s.toList.isEmpty = false := by
      rw [Bool.eq_false_iff]; intro h
      apply h0
      rw [List.isEmpty_iff, ByteArray.toList_eq] at h
      have := congrArg List.length h
      simpa using this
    have t2 : (!s.toList.isEmpty) = true := by rw [t1]; rfl
    have t3 : ¬ s.toList = [] := by rw [← List.isEmpty_iff, t1]; simp
    by_cases h1 : s.size ≤ 32
    · have hr : Hid (Hd.nameOk s = s.data.toList.all Hd.nameB) := hid (by unfold Hd.nameOk; simp [h1]; omega)
      obtain ⟨r, hq⟩ : ∃ r, s.data.toList.all Hd.nameB = r := ⟨_, rfl⟩
      have HE := hid (every_name s r w hs hq)
      have HQ := hid hq
      clear hq
      go_enter Try.func140, Try.ntmps140
      go_wp2_with fail
      refine HE.out.mono ?_
      rintro e w' ⟨rfl, rfl⟩
      go_wp2_with fail
      go_ret
      exact ⟨by rw [hr.out, HQ.out]; rfl, rfl⟩
    · have hr : Hid (Hd.nameOk s = false) := hid (by unfold Hd.nameOk; simp [h1])
      go_enter Try.func140, Try.ntmps140
      go_wp2_with fail
      go_ret
      exact ⟨by rw [hr.out]; rfl, rfl⟩

set_option maxRecDepth 100000 in
theorem value_any (s : ByteArray) (w : World) (hs : s.size ≤ 1000000000000000) : Calls Try.prog 229 #[.string s] w fun e w' => e = .returned (.bool (Hd.valueOk s)) ∧ w = w' := by
  by_cases h1 : s.size ≤ 64
  · obtain ⟨r, hq⟩ : ∃ r, s.data.toList.all Hd.valueB = r := ⟨_, rfl⟩
    have HE := hid (every_value s r w hs hq)
    have HQ := hid hq
    clear hq
    cases r
    · have hr : Hid (Hd.valueOk s = false) := hid (by unfold Hd.valueOk; rw [HQ.out]; simp)
      go_enter Try.func229, Try.ntmps229
      go_wp2_with fail
      refine HE.out.mono ?_
      rintro e w' ⟨rfl, rfl⟩
      go_wp2_with fail
      go_ret
      exact ⟨by rw [hr.out]; rfl, rfl⟩
    · by_cases h0 : s.size = 0
      · have hem : s = ByteArray.empty := ByteArray.ext (Array.eq_empty_of_size_eq_zero h0)
        have hr : Hid (Hd.valueOk s = true) := hid (by rw [hem]; rfl)
        subst hem
        go_enter Try.func229, Try.ntmps229
        go_wp2_with fail
        refine HE.out.mono ?_
        rintro e w' ⟨rfl, rfl⟩
        go_wp2_with fail
        go_ret
        exact ⟨by rw [hr.out]; rfl, rfl⟩
      · have t1 : s.toList.isEmpty = false := Hd.notEmpty h0
        have t3 : ¬ s.toList = [] := by rw [← List.isEmpty_iff, t1]; simp
        have hpos : 0 < s.size := by omega
        have hlast : s.size - 1 < s.size := by omega
        have hsub : IntKind.i64.wrap ((s.size : Int) - 1) = ((s.size - 1 : Nat) : Int) := by rw [IntWalk.i64_in _ (by omega)]; omega
        have hVal := hid (Hd.valueOk_ends s h1 HQ.out hpos hlast)
        obtain ⟨bq, hbq⟩ : ∃ q, (((s[0]'hpos).toNat : Int) != 32) = q := ⟨_, rfl⟩
        rw [hbq] at hVal
        cases bq
        all_goals
          go_enter Try.func229, Try.ntmps229
          go_wp2_with fail
          refine HE.out.mono ?_
          rintro e w' ⟨rfl, rfl⟩
          go_wp2_with fail
          go_ret
          exact ⟨by rw [hVal.out]; rfl, rfl⟩
  · have hr : Hid (Hd.valueOk s = false) := hid (by unfold Hd.valueOk; simp [h1])
    go_enter Try.func229, Try.ntmps229
    go_wp2_with fail
    go_ret
    exact ⟨by rw [hr.out]; rfl, rfl⟩

set_option maxRecDepth 100000 in
theorem rname_any (s : ByteArray) (w : World) (hs : s.size ≤ 1000000000000000) : Calls Try.prog 80 #[.string s] w fun e w' => e = .returned (.bool (Hd.nameOk s)) ∧ w = w' := by
  by_cases h0 : s.size < 1
  · have hr : Hid (Hd.nameOk s = false) := hid (by unfold Hd.nameOk; simp; omega)
    go_enter Try.func80, Try.ntmps80
    go_wp2_with fail
    go_ret
    exact ⟨by rw [hr.out]; rfl, rfl⟩
  by_cases h1 : 32 < s.size
  · have hr : Hid (Hd.nameOk s = false) := hid (by unfold Hd.nameOk; simp; omega)
    go_enter Try.func80, Try.ntmps80
    go_wp2_with fail
    go_ret
    exact ⟨by rw [hr.out]; rfl, rfl⟩
  have hr : Hid (Hd.nameOk s = s.data.toList.all Hd.nameB) := hid (by unfold Hd.nameOk; simp; omega)
  go_enter Try.func80, Try.ntmps80
  go_wp2_with fail
  go_loopw [3] (fun i wr => w = wr ∧ ∃ k : Nat, k ≤ s.size ∧ i = .int .i64 k ∧ (s.data.toList.take k).all Hd.nameB = true) (fun i _ => s.size - (intOf i).toNat)
  case atStart => exact ⟨rfl, 0, Nat.zero_le _, rfl, by simp⟩
  case round =>
    obtain ⟨rfl, k, hk, rfl, hall⟩ := hrel
    have HA := hid hall
    clear hall
    by_cases hlt : k < s.size
    · have hlt' : k < s.data.toList.length := by simpa using hlt
      have e1 : s.data.toList[k] = s[k] := rfl
      have HNext : Hid (Hd.nameB s[k] = true → (s.data.toList.take (k + 1)).all Hd.nameB = true) := hid (fun h => Hd.all_snoc hlt' HA.out (by rw [e1]; exact h))
      have HHit : Hid (Hd.nameB s[k] = false → Hd.nameOk s = false) := hid (fun h => by rw [hr.out]; exact Hd.all_hit hlt' (by rw [e1]; exact h))
      clear e1
      have hb := (s[k]'hlt).toNat_lt
      by_cases g0 : (s[k]'hlt).toNat = 45
      · have HV := hid (HNext.out (Hd.nameB_in (by omega)))
        have e1 : (((s[k]'hlt).toNat : Int) != 45) = false := by rw [g0]; rfl
        go_wp2_with fail
        go_roundw
        case rel => exact ⟨by first | rfl | trivial, k + 1, by omega, by go_num, HV.out⟩
        case measure => simp [intOf]; omega
      have e1 : (((s[k]'hlt).toNat : Int) != 45) = true := by rw [bne, beq_eq_false_iff_ne.2 (by omega)]; rfl
      by_cases g1 : (s[k]'hlt).toNat < 48
      · have HV := hid (HHit.out (Hd.nameB_out (by omega)))
        go_wp2_with fail
        go_ret
        exact ⟨by rw [HV.out]; rfl, rfl⟩
      by_cases g2 : (s[k]'hlt).toNat ≤ 57
      · have HV := hid (HNext.out (Hd.nameB_in (by omega)))
        go_wp2_with fail
        go_roundw
        case rel => exact ⟨by first | rfl | trivial, k + 1, by omega, by go_num, HV.out⟩
        case measure => simp [intOf]; omega
      by_cases g3 : (s[k]'hlt).toNat < 97
      · have HV := hid (HHit.out (Hd.nameB_out (by omega)))
        go_wp2_with fail
        go_ret
        exact ⟨by rw [HV.out]; rfl, rfl⟩
      by_cases g4 : (s[k]'hlt).toNat ≤ 122
      · have HV := hid (HNext.out (Hd.nameB_in (by omega)))
        go_wp2_with fail
        go_roundw
        case rel => exact ⟨by first | rfl | trivial, k + 1, by omega, by go_num, HV.out⟩
        case measure => simp [intOf]; omega
      · have HV := hid (HHit.out (Hd.nameB_out (by omega)))
        go_wp2_with fail
        go_ret
        exact ⟨by rw [HV.out]; rfl, rfl⟩
    · obtain rfl : k = s.size := by omega
      have hd : Hid (Hd.nameOk s = true) := hid (by have := HA.out; rw [List.take_of_length_le (by simp)] at this; rw [hr.out]; exact this)
      go_wp2_with fail
      go_ret
      exact ⟨by rw [hd.out]; rfl, rfl⟩

set_option maxRecDepth 100000 in
theorem rvalue_any (s : ByteArray) (w : World) (hs : s.size ≤ 1000000000000000) : Calls Try.prog 157 #[.string s] w fun e w' => e = .returned (.bool (Hd.valueOk s)) ∧ w = w' := by
  by_cases h1 : 64 < s.size
  · have hr : Hid (Hd.valueOk s = false) := hid (by unfold Hd.valueOk; simp; omega)
    go_enter Try.func157, Try.ntmps157
    go_wp2_with fail
    go_ret
    exact ⟨by rw [hr.out]; rfl, rfl⟩
  go_enter Try.func157, Try.ntmps157
  go_wp2_with fail
  go_loopw [3] (fun i wr => w = wr ∧ ∃ k : Nat, k ≤ s.size ∧ i = .int .i64 k ∧ (s.data.toList.take k).all Hd.valueB = true) (fun i _ => s.size - (intOf i).toNat)
  case atStart => exact ⟨rfl, 0, Nat.zero_le _, rfl, by simp⟩
  case round =>
    obtain ⟨rfl, k, hk, rfl, hall⟩ := hrel
    have HA := hid hall
    clear hall
    by_cases hlt : k < s.size
    · have hlt' : k < s.data.toList.length := by simpa using hlt
      have e1 : s.data.toList[k] = s[k] := rfl
      have HNext : Hid (Hd.valueB s[k] = true → (s.data.toList.take (k + 1)).all Hd.valueB = true) := hid (fun h => Hd.all_snoc hlt' HA.out (by rw [e1]; exact h))
      have HHit : Hid (Hd.valueB s[k] = false → Hd.valueOk s = false) := hid (fun h => by unfold Hd.valueOk; rw [Hd.all_hit hlt' (by rw [e1]; exact h)]; simp)
      clear e1
      have hb := (s[k]'hlt).toNat_lt
      by_cases g1 : (s[k]'hlt).toNat < 32
      · have HV := hid (HHit.out (Hd.valueB_out (by omega)))
        go_wp2_with fail
        go_ret
        exact ⟨by rw [HV.out]; rfl, rfl⟩
      by_cases g2 : (s[k]'hlt).toNat ≤ 126
      · have HV := hid (HNext.out (Hd.valueB_in (by omega)))
        go_wp2_with fail
        go_roundw
        case rel => exact ⟨by first | rfl | trivial, k + 1, by omega, by go_num, HV.out⟩
        case measure => simp [intOf]; omega
      · have HV := hid (HHit.out (Hd.valueB_out (by omega)))
        go_wp2_with fail
        go_ret
        exact ⟨by rw [HV.out]; rfl, rfl⟩
    · obtain rfl : k = s.size := by omega
      have hall : Hid (s.data.toList.all Hd.valueB = true) := hid (by have := HA.out; rwa [List.take_of_length_le (by simp)] at this)
      by_cases h0 : s.size = 0
      · have hem : s = ByteArray.empty := ByteArray.ext (Array.eq_empty_of_size_eq_zero h0)
        have hr : Hid (Hd.valueOk s = true) := hid (by rw [hem]; rfl)
        have e0 : ((s.size : Int) == 0) = true := by rw [h0]; rfl
        go_wp2_with fail
        go_ret
        exact ⟨by rw [hr.out]; rfl, rfl⟩
      · have e0 : ((s.size : Int) == 0) = false := by rw [beq_eq_false_iff_ne]; omega
        have hpos : 0 < s.size := by omega
        have hlast : s.size - 1 < s.size := by omega
        have hsub : IntKind.i64.wrap ((s.size : Int) - 1) = ((s.size - 1 : Nat) : Int) := by rw [IntWalk.i64_in _ (by omega)]; omega
        have hVal := hid (Hd.valueOk_ends s (by omega) hall.out hpos hlast)
        obtain ⟨bq, hbq⟩ : ∃ q, (((s[0]'hpos).toNat : Int) != 32) = q := ⟨_, rfl⟩
        rw [hbq] at hVal
        cases bq
        all_goals
          go_wp2_with fail
          go_ret
          exact ⟨by rw [hVal.out]; rfl, rfl⟩

end C04
end Go.Proofs.Ytmmmaldpalhjeaa
namespace Go.Peri
open Go.RowKit
/-- No block of F is in G. -/
def Disj (F G : List Nat) : Prop := ∀ k, k ∈ F → k ∉ G
/-- The blocks F' are those of F, or new. -/
def Moves (N : Nat) (F F' : List Nat) : Prop := ∀ k, k ∈ F' → k ∈ F ∨ N ≤ k
/-- The block of a slice. -/
def blocks (v : Value) : List Nat := v.ownBlock.toList
theorem Disj.symm {F G : List Nat} (h : Disj F G) : Disj G F := fun k hk hf => h k hf hk
theorem Disj.move {F G F' : List Nat} {N : Nat} (h : Disj F G) (hG : ∀ k, k ∈ G → k < N) (hm : Moves N F F') : Disj F' G := by
  intro k hk hg
  rcases hm k hk with h1 | h1
  · exact h k h1 hg
  · have := hG k hg; omega
theorem Disj.fresh {F G : List Nat} {N : Nat} (hF : ∀ k, k ∈ F → N ≤ k) (hG : ∀ k, k ∈ G → k < N) : Disj F G := fun k hk hg => by have := hF k hk; have := hG k hg; omega
theorem Moves.refl (N : Nat) (F : List Nat) : Moves N F F := fun _ h => .inl h
theorem Moves.le {N N' : Nat} {F F' : List Nat} (h : Moves N F F') (hn : N' ≤ N) : Moves N' F F' := fun k hk => (h k hk).imp id fun h => Nat.le_trans hn h
theorem Moves.ge {N B : Nat} {F F' : List Nat} (h : Moves N F F') (hF : ∀ k, k ∈ F → B ≤ k) (hN : B ≤ N) : ∀ k, k ∈ F' → B ≤ k := fun k hk => (h k hk).elim (hF k) (Nat.le_trans hN)
theorem owns_keep {S : List Nat} {w w' : World} {base : Nat} {e : TypeId} {size : Nat} {v : Value} {n : Nat} {xs : List Value} (h : w.ownsRow base e size v n xs) (ho : Only S w w') (hs : Disj (blocks v) S) : w'.ownsRow base e size v n xs := by
  obtain ⟨h1, h2⟩ := h
  refine ⟨h1, h2.imp id ?_⟩
  rintro ⟨k, cp, cur, q1, q2, q3, q4⟩
  exact ⟨k, cp, cur, q1, q2, (ho.block k (Array.getElem?_eq_some_iff.1 q3).1 (hs k (by rw [q1]; simp [blocks, Value.ownBlock]))).trans q3, q4⟩
theorem owns_bd {w : World} {base : Nat} {e : TypeId} {size : Nat} {v : Value} {n : Nat} {xs : List Value} (h : w.ownsRow base e size v n xs) : ∀ k, k ∈ blocks v → base ≤ k ∧ k < w.heap.size := by
  intro k hk
  exact h.lt k (by simpa [blocks] using hk)
theorem owns_lt {w : World} {base : Nat} {e : TypeId} {size : Nat} {v : Value} {n : Nat} {xs : List Value} (h : w.ownsRow base e size v n xs) : ∀ k, k ∈ blocks v → k < w.heap.size := fun k hk => (owns_bd h k hk).2
theorem Only.of_grown' {w w' : World} {row : Option Nat} (h : w.grownBy w' row) : Only row.toList w w' :=
  ⟨h.os, h.tape, h.output, h.size, fun k hk hs => h.block k hk (by rintro rfl; simp at hs)⟩
theorem moves_of_own {v v' : Value} {N N' : Nat} (h : v'.ownBlock = v.ownBlock ∨ v'.ownBlock = some N) (hn : N' ≤ N) : Moves N' (blocks v) (blocks v') := by
  intro k hk
  unfold blocks at hk ⊢
  rcases h with h | h
  · rw [h] at hk; exact .inl hk
  · rw [h] at hk; simp at hk; exact .inr (by omega)
section
variable {P : Program}
/-- 'out = append(out, ys...)', and where the new row lies. -/
theorem wpList_pushCells_at {t e : TypeId} {size bytes : Nat} (E : Elem P t e size bytes) {ops : Array Oper} {rest : List Oper} {o : Oper} {a : Act} {Q : Exit → Act → World → Prop} {w : World} (hgd : o.guard = none) (s x : Operand)
    (ho : o.op = .call { callee := .builtin .append, args := #[s, x], argTypes := #[t, t] }) (base : Nat) (v : Value) (n : Nat) (xs : List Value) (hs : a.eval s = v) (hown : w.ownsRow base e size v n xs)
    {p : Nat → Prop} {m : Nat} {vx : Value} {news : List Value} (hx : a.eval x = vx) (hv : Cellz p size w vx m news) (h1 : ∀ u ∈ news, u.oneCell' = true)
    (h63 : n + m ≤ maxLen) (hbytes : (n + m) * bytes ≤ 140737488355328) (hbase : base ≤ w.heap.size)
    (h : ∀ v' w', w'.ownsRow base e size v' (n + m) (xs ++ news) → Only (blocks v) w w' → Moves w.heap.size (blocks v) (blocks v') → wpList P ops Q rest (a.put o.dst v') w') : wpList P ops Q (o :: rest) a w := by
  obtain ⟨hl, ad, cap, rfl, hmc, hcm, hnone, hcell⟩ := hv
  obtain ⟨i, z, hi, hz, hsz, hby, hzs⟩ := E.info
  cases ad with
  | none =>
    have : cap = 0 := hnone rfl
    obtain rfl : m = 0 := by omega
    subst this
    have hn : news = [] := List.length_eq_zero_iff.1 (by simpa using hl)
    subst hn
    refine wpList_append_own_none hgd s x t ho base e i size E.under hi v n xs hs hown hx ?_
    exact h v w (by simpa using hown) (Only.refl _ _) (Moves.refl _ _)
  | some ad =>
    refine wpList_append_own_at _ hgd s x t ho base e i z size bytes E.under hi hz hsz hby hzs E.pos v n xs hs hown ad m cap news hx hl ?_ h1 h63 hbytes hbase ?_
    · intro j u hj
      have hj' := (List.getElem?_eq_some_iff.1 hj).1
      have hm : m ≠ 0 := by rintro rfl; rw [hl] at hj'; simp at hj'
      obtain ⟨b, off, g1, _, g3⟩ := hcell.resolve_left hm
      cases g1
      have e1 : (⟨b, off, none⟩ : Addr).add j = ⟨b, off + j, none⟩ := by
        unfold Addr.add; split
        · rename_i hz; rw [hz]; rfl
        · rfl
      rw [e1, g3 j hj']
      rw [List.getD, hj]
      rfl
    · intro v' w' h2 h3 _ h5
      exact h v' w' h2 (Only.of_grown' h3) (moves_of_own h5 (Nat.le_refl _))
/-- 'out = append(out, x)' where x has just been laid in a block of its own, and where the new row lies. -/
theorem wpList_push_at {t e : TypeId} {size bytes : Nat} (E : Elem P t e size bytes) {ops : Array Oper} {rest : List Oper} {o : Oper} {a : Act} {Q : Exit → Act → World → Prop} {w w0 : World} (hgd : o.guard = none) (s x : Operand)
    (ho : o.op = .call { callee := .builtin .append, args := #[s, x], argTypes := #[t, t] }) (base : Nat) (v : Value) (n : Nat) (xs news : List Value) (hs : a.eval s = v) (hown : w0.ownsRow base e size v n xs) {T : TypeId}
    (hw : w = w0.alloc (.cells news.toArray T)) (hx : a.eval x = .slice (some ⟨w0.heap.size, 0, none⟩) 1 1) (hl : news.length = size) (h1 : ∀ u ∈ news, u.oneCell' = true)
    (h63 : n + 1 ≤ maxLen) (hbytes : (n + 1) * bytes ≤ 140737488355328) (hbase : base ≤ w0.heap.size)
    (h : ∀ v' w', w'.ownsRow base e size v' (n + 1) (xs ++ news) → Only (blocks v) w0 w' → Moves w0.heap.size (blocks v) (blocks v') → wpList P ops Q rest (a.put o.dst v') w') : wpList P ops Q (o :: rest) a w := by
  subst hw
  obtain ⟨i, z, hi, hz, hsz, hby, hzs⟩ := E.info
  refine wpList_append_own_at _ hgd s x t ho base e i z size bytes E.under hi hz hsz hby hzs E.pos v n xs hs (hown.alloc _) ⟨w0.heap.size, 0, none⟩ 1 1 news hx (by omega) ?_ h1 h63 hbytes (by simp; omega) ?_
  · intro j u hj
    have e1 : (⟨w0.heap.size, 0, none⟩ : Addr).add j = ⟨w0.heap.size, j, none⟩ := by
      unfold Addr.add; split
      · rename_i hz; rw [hz]
      · simp
    rw [e1, World.cell?_alloc_new]
    simpa using hj
  · intro v' w' h2 h3 _ h5
    refine h v' w' h2 (((Only.refl _ w0).alloc _).trans (Only.of_grown' h3)) (moves_of_own h5 (by simp))
end
end Go.Peri
namespace Go.Peri
open Go.RowKit
def strs (ls : List ByteArray) : List Value := ls.map Value.string
theorem strs_one (ls : List ByteArray) : ∀ u ∈ strs ls, u.oneCell' = true := by
  intro u hu
  obtain ⟨s, _, rfl⟩ := List.mem_map.1 hu
  rfl
theorem bytes_ne {x y : ByteArray} (h : x ≠ y) : (x.toList == y.toList) = false := by
  refine beq_eq_false_iff_ne.2 fun e => h ?_
  rw [ByteArray.toList_eq, ByteArray.toList_eq] at e
  exact ByteArray.ext (Array.toList_inj.1 e)
theorem bytes_beq (x y : ByteArray) : (x.toList == y.toList) = decide (x = y) := by
  by_cases h : x = y
  · subst h; simp
  · rw [bytes_ne h, decide_eq_false h]
theorem bytes_bne (x y : ByteArray) : (x.toList != y.toList) = !decide (x = y) := by rw [bne, bytes_beq]
/-- A string is equal to another one, or not: as the walk asks it. -/
structure StrEq (x y : ByteArray) (b : Bool) : Prop where
  eq : (x.toList == y.toList) = b
  ne : (x.toList != y.toList) = !b
theorem strEq (x y : ByteArray) : StrEq x y (decide (x = y)) := ⟨bytes_beq x y, bytes_bne x y⟩
theorem strEq_of {x y : ByteArray} {b : Bool} (h : decide (x = y) = b) : StrEq x y b := h ▸ strEq x y
theorem below_drew {B : Nat} {a w : World} (h : Below B a.drew w) : Below B a w := ⟨h.os, h.tape, h.output, h.size, h.block⟩
/-- A new row of elements. -/
def NewRows {α : Type} (enc : α → List Value) (k : Nat) (T : TypeId) (W : World) (l : List α) (e : Ending) (w' : World) : Prop :=
  ∃ a cap, e = .returned (.slice a l.length cap) ∧ Below W.heap.size W w' ∧ Hid (w'.ownsRow W.heap.size T k (.slice a l.length cap) l.length (l.flatMap enc))
/-- .. known as a reading only. -/
def NewRead {α : Type} (enc : α → List Value) (k : Nat) (W : World) (l : List α) (e : Ending) (w' : World) : Prop :=
  ∃ a cap, e = .returned (.slice a l.length cap) ∧ Below W.heap.size W w' ∧ Hid (RowsOf (fun b => W.heap.size ≤ b ∧ b < w'.heap.size) enc k w' (.slice a l.length cap) l)
theorem NewRows.read {α : Type} {enc : α → List Value} {k : Nat} (hk : ∀ x, (enc x).length = k) {T : TypeId} {W : World} {l : List α} {e : Ending} {w' : World} (h : NewRows enc k T W l e w') : NewRead enc k W l e w' := by
  obtain ⟨a, cap, h1, h2, h3⟩ := h
  exact ⟨a, cap, h1, h2, RowsOf.of_owns hk h3.out⟩
def sEnc (s : ByteArray) : List Value := [.string s]
theorem sEnc_length (s : ByteArray) : (sEnc s).length = 1 := rfl
theorem sEnc_flat (l : List ByteArray) : l.flatMap sEnc = strs l := by
  induction l with
  | nil => rfl
  | cons x l ih => rw [List.flatMap_cons, ih]; rfl
theorem sEnc_one (l : List ByteArray) : ∀ u ∈ l.flatMap sEnc, u.oneCell' = true := by rw [sEnc_flat]; exact strs_one l
theorem rows_of_vals {p : Nat → Prop} {w : World} {v : Value} {l : List ByteArray} (h : Vals p w v (l.map Value.string)) : RowsOf p sEnc 1 w v l := by
  have := h.cellz
  rw [List.length_map] at this
  refine Cellz.rows sEnc_length ?_
  rw [sEnc_flat]
  exact this
/-- 'out = append(out, x)', the new block's number in the walk's spelling. -/
theorem wpList_pushH {P : Program} {t e : TypeId} {size bytes : Nat} (E : Elem P t e size bytes) {ops : Array Oper} {rest : List Oper} {o : Oper} {a : Act} {Q : Exit → Act → World → Prop} {w w0 : World} (hgd : o.guard = none) (s x : Operand)
    (ho : o.op = .call { callee := .builtin .append, args := #[s, x], argTypes := #[t, t] }) (base : Nat) (v : Value) (n : Nat) (xs news : List Value) (hs : a.eval s = v) (hown : w0.ownsRow base e size v n xs) {T : TypeId}
    (hw : w = w0.alloc (.cells news.toArray T)) (H : Nat) (hH : w0.heap.size = H) (hx : a.eval x = .slice (some ⟨H, 0, none⟩) 1 1) (hl : news.length = size) (h1 : ∀ u ∈ news, u.oneCell' = true)
    (h63 : n + 1 ≤ maxLen) (hbytes : (n + 1) * bytes ≤ 140737488355328) (hbase : base ≤ H)
    (h : ∀ v' w', w'.ownsRow base e size v' (n + 1) (xs ++ news) → Below base w0 w' → wpList P ops Q rest (a.put o.dst v') w') : wpList P ops Q (o :: rest) a w := by
  subst hH
  exact wpList_push E hgd s x ho base v n xs news hs hown hw hx hl h1 h63 hbytes hbase h
/-- A slice value as it is. -/
theorem RowsOf.form {α : Type} {p : Nat → Prop} {enc : α → List Value} {k : Nat} {w : World} {v : Value} {l : List α} (h : RowsOf p enc k w v l) : ∃ a cap, v = .slice a l.length cap := by
  obtain ⟨a, cap, e, _⟩ := h
  exact ⟨a, cap, e⟩
theorem owns_form {w : World} {base : Nat} {e : TypeId} {size : Nat} {v : Value} {n : Nat} {xs : List Value} (h : w.ownsRow base e size v n xs) : ∃ a cap, v = .slice a n cap := by
  rcases h.2 with ⟨h5, h0⟩ | ⟨gg, cap, cur, rfl, _⟩
  · rw [h5, h0]; exact ⟨none, 0, rfl⟩
  · exact ⟨_, cap, rfl⟩
namespace Hd
theorem allR_snoc (p : List Hd) (h : Hd) (n : ByteArray) : allR (p ++ [h]) n = if h.name = n then allR p n ++ [h.value] else allR p n := by
  unfold allR
  rw [List.filter_append]
  by_cases e : h.name = n <;> simp [e]
theorem allR_len (l : List Hd) (n : ByteArray) : (allR l n).length ≤ l.length := by
  unfold allR
  rw [List.length_map]
  exact List.length_filter_le _ _
theorem outR_snoc (p : List Hd) (h : Hd) (ns : List ByteArray) : outR (p ++ [h]) ns = if ns.any (fun x => decide (x = h.name)) then outR p ns else outR p ns ++ [h] := by
  unfold outR
  rw [List.filter_append]
  by_cases e : ns.any (fun x => decide (x = h.name)) = true <;> simp [e]
theorem outR_len (l : List Hd) (ns : List ByteArray) : (outR l ns).length ≤ l.length := List.length_filter_le _ _
theorem allR_ix (l : List Hd) (n : ByteArray) : (ix l n < l.length → ∃ t, allR l n = (l.getD (ix l n) ⟨.empty, .empty⟩).value :: t) ∧ (¬ ix l n < l.length → allR l n = []) := by
  induction l with
  | nil => exact ⟨fun h => by simp at h, fun _ => rfl⟩
  | cons h t ih =>
    by_cases e : h.name = n
    · have : ix (h :: t) n = 0 := by unfold ix; simp [List.findIdx_cons, e]
      rw [this]
      exact ⟨fun _ => ⟨allR t n, by simp [allR, e]⟩, fun h2 => absurd (by simp) h2⟩
    · have e1 : ix (h :: t) n = ix t n + 1 := by unfold ix; simp [List.findIdx_cons, e]
      have e2 : allR (h :: t) n = allR t n := by simp [allR, e]
      rw [e1, e2]
      refine ⟨fun h2 => ?_, fun h2 => ih.2 (by simpa using h2)⟩
      obtain ⟨q, hq⟩ := ih.1 (by simpa using h2)
      exact ⟨q, by rw [hq]; simp [List.getD]⟩
theorem getR_in (l : List Hd) (n : ByteArray) (h : ix l n < l.length) : getR l n = (l[ix l n].value, true) := by
  obtain ⟨t, ht⟩ := (allR_ix l n).1 h
  unfold getR
  rw [ht]
  simp [List.getD, h]
theorem getR_out (l : List Hd) (n : ByteArray) (h : ¬ ix l n < l.length) : getR l n = (ByteArray.empty, false) := by
  unfold getR
  rw [(allR_ix l n).2 h]
theorem ix_hit {l : List Hd} {n : ByteArray} {k : Nat} (hk : k < l.length) (h1 : l[k].name = n) (h2 : ∀ j (_ : j < k) (hj : j < l.length), l[j].name ≠ n) : ix l n = k := by
  unfold ix
  rw [List.findIdx_eq hk]
  exact ⟨by simpa using h1, fun j hj => by simpa using h2 j hj (by omega)⟩
theorem ix_none {l : List Hd} {n : ByteArray} (h2 : ∀ j (_ : j < l.length) (hj : j < l.length), l[j].name ≠ n) : ¬ ix l n < l.length := by
  intro h
  exact h2 _ h h (at_ix l n h)
/-- What where gives. -/
def atR (l : List Hd) (n : ByteArray) : Int := if ix l n < l.length then ix l n else -1
theorem atR_in {l : List Hd} {n : ByteArray} (h : ix l n < l.length) : atR l n = ix l n := if_pos h
theorem atR_out {l : List Hd} {n : ByteArray} (h : ¬ ix l n < l.length) : atR l n = -1 := if_neg h
end Hd
end Go.Peri
namespace Go.Proofs.Ytmmmaldpalhjeaa
open Go.RowKit Go.Peri
namespace C04
theorem elemH : Elem Try.prog 65 154 2 32 := Elem.mk' (z := .agg #[.string ByteArray.empty, .string ByteArray.empty]) Try.underlying65 (by kernel_rfl) rfl (by decide)
theorem elemS : Elem Try.prog 28 9 1 16 := Elem.mk' (z := .string ByteArray.empty) Try.underlying28 (by kernel_rfl) rfl (by decide)

set_option maxRecDepth 100000 in
theorem check_any {p : Nat → Prop} (v : Value) (l : List Hd) (W : World) (h : RowsOf p Hd.enc 2 W v l) (hp : ∀ b, p b → b < W.heap.size) (hw : ∀ x ∈ l, x.Wf) (hl : l.length ≤ 1000000000000) :
    Calls Try.prog 241 #[v] W fun e w' => e = .returned (.int .i64 (Hd.checkR l)) ∧ Below W.heap.size W w' := by
  obtain ⟨a, cap, rfl, hlc, hcm, _, hcell⟩ := h
  have HC := hid hcell
  have HP := hid hp
  have HWF := hid hw
  clear hcell hp hw
  by_cases h16 : 16 < l.length
  · have hr : Hid (Hd.checkR l = 8) := hid (if_pos h16)
    go_enter Try.func241, Try.ntmps241
    go_wp2_with fail
    go_ret
    exact ⟨by rw [hr.out]; rfl, Below.refl _ _⟩
  have hr : Hid (Hd.checkR l = Hd.checkL l) := hid (if_neg h16)
  go_enter Try.func241, Try.ntmps241
  go_wp2_with fail
  go_loopw [10] (fun i wr => ∃ k : Nat, k ≤ l.length ∧ i = .int .i64 k ∧ Below W.heap.size W wr ∧ ∀ j (_ : j < k) (hj : j < l.length), Hd.nameOk l[j].name = true ∧ Hd.valueOk l[j].value = true) (fun i _ => l.length - (intOf i).toNat)
  case atStart => exact ⟨0, Nat.zero_le _, rfl, Below.refl _ _, fun j hj => absurd hj (Nat.not_lt_zero _)⟩
  case round =>
    obtain ⟨k, hk, rfl, hb, hno⟩ := hrel
    have HB := hid hb
    have HN := hid hno
    clear hb hno
    by_cases hlt : k < l.length
    · obtain ⟨b, off, rfl, hpb, hc⟩ := HC.out.resolve_left (by intro e; rw [e] at hlt; simp at hlt)
      have hbl := HP.out b hpb
      obtain ⟨c0, c1⟩ := Hd.cells (fun j u hu => (HB.out.cell (p := ⟨b, off + k * 2 + j, none⟩) hbl).trans (hc k hlt j u hu))
      have HNext : Hid (Hd.nameOk l[k].name = true → Hd.valueOk l[k].value = true → ∀ j (_ : j < k + 1) (hj : j < l.length), Hd.nameOk l[j].name = true ∧ Hd.valueOk l[j].value = true) := by
        intro h1 h2 j hj hjl
        by_cases e : j = k
        · subst e; exact ⟨h1, h2⟩
        · exact HN.out j (by omega) hjl
      have HName : Hid (Hd.nameOk l[k].name = false → Hd.checkR l = 7) := fun h1 => by rw [hr.out]; exact Hd.checkL_name l k hlt HN.out h1
      have HVal : Hid (Hd.nameOk l[k].name = true → Hd.valueOk l[k].value = false → Hd.checkR l = 15) := fun h1 h2 => by rw [hr.out]; exact Hd.checkL_value l k hlt HN.out h1 h2
      have hwy := HWF.out l[k] (List.getElem_mem hlt)
      clear hc
      generalize l[k] = y at c0 c1 HNext HName HVal hwy
      have hws := HB.out.size
      have HNA := hid (fun w => name_any y.name w (by have := hwy.name; omega))
      have HVA := hid (fun w => value_any y.value w (by have := hwy.value; omega))
      obtain ⟨bn, hn⟩ : ∃ q, Hd.nameOk y.name = q := ⟨_, rfl⟩
      obtain ⟨bv, hv⟩ : ∃ q, Hd.valueOk y.value = q := ⟨_, rfl⟩
      rw [hn] at HNA HNext HName HVal
      rw [hv] at HVA HNext HVal
      clear hn hv hwy
      cases bn
      · go_wp2_with fail
        refine (HNA.out _).mono ?_
        rintro e w' ⟨rfl, rfl⟩
        go_wp2_with fail
        go_ret
        exact ⟨by rw [HName.out (by simp)]; rfl, HB.out.alloc hws _⟩
      · go_wp2_with fail
        refine (HNA.out _).mono ?_
        rintro e w' ⟨rfl, rfl⟩
        go_wp2_with fail
        refine (HVA.out _).mono ?_
        rintro e w' ⟨rfl, rfl⟩
        cases bv
        · go_wp2_with fail
          go_ret
          exact ⟨by rw [HVal.out (by simp) (by simp)]; rfl, HB.out.alloc hws _⟩
        · go_wp2_with fail
          go_roundw
          case rel => exact ⟨k + 1, by omega, by go_num, HB.out.alloc hws _, HNext.out (by simp) (by simp)⟩
          case measure => simp [intOf]; omega
    · obtain rfl : k = l.length := by omega
      have hd : Hid (Hd.checkR l = 0) := hid (by rw [hr.out]; exact Hd.checkL_ok l HN.out)
      go_wp2_with fail
      go_ret
      exact ⟨by rw [hd.out]; rfl, HB.out⟩

end C04
end Go.Proofs.Ytmmmaldpalhjeaa
namespace Go.Proofs.Ytmmmaldpalhjeaa
open Go.RowKit Go.Peri
namespace C04
set_option maxRecDepth 100000 in
theorem all_any {p : Nat → Prop} (v : Value) (l : List Hd) (n : ByteArray) (W : World) (h : RowsOf p Hd.enc 2 W v l) (hp : ∀ b, p b → b < W.heap.size) (hl : l.length ≤ 1000000000) :
    Calls Try.prog 231 #[v, .string n] W (NewRows sEnc 1 9 W (Hd.allR l n)) := by
  obtain ⟨a, cap, rfl, hlc, hcm, _, hcell⟩ := h
  have HC := hid hcell
  have HP := hid hp
  clear hcell hp
  go_enter Try.func231, Try.ntmps231
  go_wp2_with fail
  go_loopw [5, 10] (fun u i wr => ∃ k : Nat, k ≤ l.length ∧ i = .int .i64 k ∧ Below W.heap.size W wr ∧ wr.ownsRow W.heap.size 9 1 u (Hd.allR (l.take k) n).length ((Hd.allR (l.take k) n).flatMap sEnc)) (fun _ i _ => l.length - (intOf i).toNat)
  case atStart => exact ⟨0, Nat.zero_le _, rfl, Below.refl _ _, World.ownsRow_nil _ _ _ _⟩
  case round =>
    obtain ⟨k, hk, rfl, hb, hown⟩ := hrel
    have HB := hid hb
    by_cases hlt : k < l.length
    · obtain ⟨b, off, rfl, hpb, hc⟩ := HC.out.resolve_left (by intro e; rw [e] at hlt; simp at hlt)
      have hbl := HP.out b hpb
      obtain ⟨c0, c1⟩ := Hd.cells (fun j u hu => (HB.out.cell (p := ⟨b, off + k * 2 + j, none⟩) hbl).trans (hc k hlt j u hu))
      have hsn : Hid (Hd.allR (l.take (k + 1)) n = if l[k].name = n then Hd.allR (l.take k) n ++ [l[k].value] else Hd.allR (l.take k) n) := hid (by rw [List.take_succ_eq_append_getElem hlt, Hd.allR_snoc])
      have hal := Hd.allR_len (l.take k) n
      rw [List.length_take] at hal
      obtain ⟨bq, hq⟩ : ∃ bq, decide (l[k].name = n) = bq := ⟨_, rfl⟩
      obtain ⟨s1, s2⟩ := strEq_of hq
      have HQ := hid hq
      have hws := HB.out.size
      clear hc hb hq
      generalize l[k] = y at c0 c1 hsn s1 s2 HQ
      generalize Hd.allR (l.take k) n = acc at hown hsn hal
      have HOWN := hid hown
      clear hown
      cases bq
      · have hsn2 : Hid (Hd.allR (l.take (k + 1)) n = acc) := hid (by rw [hsn.out, if_neg (of_decide_eq_false HQ.out)])
        go_wp2_with fail
        go_roundw
        case rel => exact ⟨k + 1, by omega, by go_num, HB.out.alloc hws _, by rw [hsn2.out]; exact HOWN.out.alloc _⟩
        case measure => simp [intOf]; omega
      · have hsn2 : Hid (Hd.allR (l.take (k + 1)) n = acc ++ [y.value]) := hid (by rw [hsn.out, if_pos (of_decide_eq_true HQ.out)])
        have HB2 : Hid (Below W.heap.size W (wr.alloc (.cells #[.string y.name, .string y.value] 154))) := HB.out.alloc hws _
        have HO2 : Hid ((wr.alloc (.cells #[.string y.name, .string y.value] 154)).ownsRow W.heap.size 9 1 u5 acc.length (acc.flatMap sEnc)) := HOWN.out.alloc _
        have HSZ : Hid ((wr.alloc (.cells #[.string y.name, .string y.value] 154)).heap.size = wr.heap.size + 1) := hid (by simp)
        go_wp2_with (at_builtin; refine wpList_pushH elemS rfl _ _ rfl W.heap.size _ _ _ [.string y.value] rfl HO2.out rfl (wr.heap.size + 1) HSZ.out rfl rfl (by simp [Value.oneCell']) ?_ ?_ ?_ ?_)
        · unfold maxLen; omega
        · omega
        · omega
        intro v2 w2 hown2 hb2
        have HB3 := hid (HB2.out.trans hb2)
        have HO3 : Hid (w2.ownsRow W.heap.size 9 1 v2 (Hd.allR (l.take (k + 1)) n).length ((Hd.allR (l.take (k + 1)) n).flatMap sEnc)) := hid (by rw [hsn2.out, List.flatMap_append, List.length_append]; exact hown2)
        clear hown2 hb2
        go_wp2_with fail
        go_roundw
        case rel => exact ⟨k + 1, by omega, by go_num, HB3.out, HO3.out⟩
        case measure => simp [intOf]; omega
    · obtain rfl : k = l.length := by omega
      rw [List.take_length] at hown
      obtain ⟨a5, cap5, rfl⟩ := owns_form hown
      have HOWN := hid hown
      clear hown hb
      go_wp2_with fail
      go_ret
      exact ⟨a5, cap5, rfl, HB.out, HOWN.out⟩

set_option maxRecDepth 100000 in
theorem rall_any {p : Nat → Prop} (v : Value) (l : List Hd) (n : ByteArray) (W : World) (h : RowsOf p Hd.enc 2 W v l) (hp : ∀ b, p b → b < W.heap.size) (hl : l.length ≤ 1000000000) :
    Calls Try.prog 192 #[v, .string n] W (NewRows sEnc 1 9 W (Hd.allR l n)) := by
  obtain ⟨a, cap, rfl, hlc, hcm, _, hcell⟩ := h
  have HC := hid hcell
  have HP := hid hp
  clear hcell hp
  go_enter Try.func192, Try.ntmps192
  go_wp2_with fail
  go_loopw [5, 6] (fun u i wr => ∃ k : Nat, k ≤ l.length ∧ i = .int .i64 k ∧ Below W.heap.size W wr ∧ wr.ownsRow W.heap.size 9 1 u (Hd.allR (l.take k) n).length ((Hd.allR (l.take k) n).flatMap sEnc)) (fun _ i _ => l.length - (intOf i).toNat)
  case atStart => exact ⟨0, Nat.zero_le _, rfl, Below.refl _ _, World.ownsRow_nil _ _ _ _⟩
  case round =>
    obtain ⟨k, hk, rfl, hb, hown⟩ := hrel
    have HB := hid hb
    by_cases hlt : k < l.length
    · obtain ⟨b, off, rfl, hpb, hc⟩ := HC.out.resolve_left (by intro e; rw [e] at hlt; simp at hlt)
      have hbl := HP.out b hpb
      obtain ⟨c0, c1⟩ := Hd.cells (fun j u hu => (HB.out.cell (p := ⟨b, off + k * 2 + j, none⟩) hbl).trans (hc k hlt j u hu))
      have hsn : Hid (Hd.allR (l.take (k + 1)) n = if l[k].name = n then Hd.allR (l.take k) n ++ [l[k].value] else Hd.allR (l.take k) n) := hid (by rw [List.take_succ_eq_append_getElem hlt, Hd.allR_snoc])
      have hal := Hd.allR_len (l.take k) n
      rw [List.length_take] at hal
      obtain ⟨bq, hq⟩ : ∃ bq, decide (l[k].name = n) = bq := ⟨_, rfl⟩
      obtain ⟨s1, s2⟩ := strEq_of hq
      have HQ := hid hq
      have hws := HB.out.size
      clear hc hb hq
      generalize l[k] = y at c0 c1 hsn s1 s2 HQ
      generalize Hd.allR (l.take k) n = acc at hown hsn hal
      have HOWN := hid hown
      clear hown
      cases bq
      · have hsn2 : Hid (Hd.allR (l.take (k + 1)) n = acc) := hid (by rw [hsn.out, if_neg (of_decide_eq_false HQ.out)])
        go_wp2_with fail
        go_roundw
        case rel => exact ⟨k + 1, by omega, by go_num, HB.out, by rw [hsn2.out]; exact HOWN.out⟩
        case measure => simp [intOf]; omega
      · have hsn2 : Hid (Hd.allR (l.take (k + 1)) n = acc ++ [y.value]) := hid (by rw [hsn.out, if_pos (of_decide_eq_true HQ.out)])
        go_wp2_with (at_builtin; refine wpList_push elemS rfl _ _ rfl W.heap.size _ _ _ [.string y.value] rfl HOWN.out rfl rfl rfl (by simp [Value.oneCell']) ?_ ?_ ?_ ?_)
        · unfold maxLen; omega
        · omega
        · omega
        intro v2 w2 hown2 hb2
        have HB3 := hid (HB.out.trans hb2)
        have HO3 : Hid (w2.ownsRow W.heap.size 9 1 v2 (Hd.allR (l.take (k + 1)) n).length ((Hd.allR (l.take (k + 1)) n).flatMap sEnc)) := hid (by rw [hsn2.out, List.flatMap_append, List.length_append]; exact hown2)
        clear hown2 hb2
        go_wp2_with fail
        go_roundw
        case rel => exact ⟨k + 1, by omega, by go_num, HB3.out, HO3.out⟩
        case measure => simp [intOf]; omega
    · obtain rfl : k = l.length := by omega
      rw [List.take_length] at hown
      obtain ⟨a5, cap5, rfl⟩ := owns_form hown
      have HOWN := hid hown
      clear hown hb
      go_wp2_with fail
      go_ret
      exact ⟨a5, cap5, rfl, HB.out, HOWN.out⟩

end C04
end Go.Proofs.Ytmmmaldpalhjeaa
namespace Go.Peri
open Go.RowKit
theorem Blk.setCells {t : TypeId} {g : Nat} : ∀ (vs : List Value) (o : Nat) {w : World} {cs : Array Value}, Blk w g cs t → ∃ cs', Blk (w.setCells g o vs) g cs' t ∧ cs'.size = cs.size
  | [], _, _, cs, h => ⟨cs, h, rfl⟩
  | v :: r, o, w, cs, h => by
    obtain ⟨cs', h1, h2⟩ := Blk.setCells r (o + 1) (h.set o v)
    exact ⟨cs', h1, by simpa using h2⟩
theorem Only.setCells {S : List Nat} {a : World} {g : Nat} (hg : g ∈ S) : ∀ (vs : List Value) (o : Nat) {w : World}, Only S a w → Only S a (w.setCells g o vs)
  | [], _, _, h => h
  | v :: r, o, _, h => Only.setCells hg r (o + 1) (h.setCell (p := ⟨g, o, none⟩) hg v)
/-- A block whose first cells are told owns its row. -/
theorem owns_of_blk {w : World} {base g cap : Nat} {e : TypeId} {size n : Nat} {cs : Array Value} {xs : List Value} (h : Blk w g cs e) (hb : base ≤ g) (hc : cs.size = cap * size) (hn : n ≤ cap) (hm : cap ≤ maxLen) (hl : xs.length = n * size) (hx : ∀ i, i < xs.length → cs[i]? = xs[i]?) :
    w.ownsRow base e size (.slice (some ⟨g, 0, none⟩) n cap) n xs := by
  refine ⟨hl, .inr ⟨g, cap, cs, rfl, hb, h, hn, hm, hc, ?_⟩⟩
  refine List.ext_getElem? fun i => ?_
  by_cases hi : i < xs.length
  · rw [List.getElem?_take, if_pos (by omega), Array.getElem?_toList, hx i hi]
  · rw [List.getElem?_take, if_neg (by omega), List.getElem?_eq_none (by omega)]
/-- 'clear(s)'. -/
theorem run_clear_cells {P : Program} {t e : TypeId} {size : Nat} (w : World) (ht : P.underlying t = some (.slice e)) (z : Value) (hv : ∀ w, (zeroValue e).run P w = .ok z w) (hz : z.cells.size = size) (h1 : ∀ v ∈ z.cells.toList, v.oneCell' = true) (b o n c : Nat) (hn : 0 < n)
    (hc : ∀ j, j < n * size → (w.cell? ⟨b, o + j, none⟩).isSome = true) (hf : ∀ j, j < n * size → w.frozen? ⟨b, o + j, none⟩ = false) :
    ∃ zs : List Value, zs.length = n * size ∧ ∀ ty, (Builtin.clear_ #[t] ty #[.slice (some ⟨b, o, none⟩) n c]).run P w = .ok (.tuple #[]) (w.setCells b o zs) := by
  have hlen : (Builtin.zeroCells z.cells n).toList.length = n * size := by rw [Array.length_toList, size_zeroCells, hz]
  have hone : ∀ v ∈ (Builtin.zeroCells z.cells n).toList, v.oneCell' = true := by
    intro v hv
    refine h1 v ?_
    rw [Builtin.zeroCells, Array.toList_map] at hv
    obtain ⟨i, hi, rfl⟩ := List.mem_map.1 hv
    have hi2 : i < n * z.cells.size := by simpa using hi
    have hp : 0 < z.cells.size := by
      rcases Nat.eq_zero_or_pos z.cells.size with h | h
      · rw [h] at hi2; simp at hi2
      · exact h
    have hm : i % z.cells.size < z.cells.size := Nat.mod_lt _ hp
    rw [getElem!_pos z.cells _ hm]
    simp
  refine ⟨_, hlen, fun ty => ?_⟩
  have hst := run_storeCells_cells (P := P) b o (Builtin.zeroCells z.cells n).toList 0 w (by rw [hlen]; simpa using hc) (by rw [hlen]; simpa using hf) hone
  simp only [Nat.add_zero] at hst
  obtain ⟨m, rfl⟩ : ∃ m, n = m + 1 := ⟨n - 1, by omega⟩
  simp [Builtin.clear_, run_underlying ht, hv, hst]
end Go.Peri
namespace Go.Peri
namespace Hd
def hasN (ns : List ByteArray) (h : Hd) : Bool := ns.any (fun x => decide (x = h.name))
def ixN (l : List Hd) (ns : List ByteArray) : Nat := l.findIdx (hasN ns)
def atN (l : List Hd) (ns : List ByteArray) : Int := if ixN l ns < l.length then ixN l ns else -1
theorem outR_hasN (l : List Hd) (ns : List ByteArray) : outR l ns = l.filter (fun h => !hasN ns h) := rfl
theorem ixN_hit {l : List Hd} {ns : List ByteArray} {k : Nat} (hk : k < l.length) (h1 : hasN ns l[k] = true) (h2 : ∀ j (_ : j < k) (hj : j < l.length), hasN ns l[j] = false) : ixN l ns = k := by
  unfold ixN
  rw [List.findIdx_eq hk]
  exact ⟨h1, fun j hj => by simpa using h2 j hj (by omega)⟩
theorem ixN_none {l : List Hd} {ns : List ByteArray} (h2 : ∀ j (_ : j < l.length) (hj : j < l.length), hasN ns l[j] = false) : ¬ ixN l ns < l.length := by
  intro h
  have := List.findIdx_getElem (w := h)
  have h3 := h2 _ h h
  unfold ixN at h3
  rw [this] at h3
  exact absurd h3 (by simp)
theorem out_none {l : List Hd} {ns : List ByteArray} (h : ¬ ixN l ns < l.length) : outR l ns = l := by
  rw [outR_hasN, List.filter_eq_self]
  intro x hx
  have hl : ixN l ns = l.length := by have : ixN l ns ≤ l.length := List.findIdx_le_length; omega
  obtain ⟨i, hi, rfl⟩ := List.getElem_of_mem hx
  have := List.not_of_lt_findIdx (p := hasN ns) (xs := l) (i := i) (by unfold ixN at hl; omega)
  simpa using this
theorem out_first {l : List Hd} {ns : List ByteArray} (h : ixN l ns < l.length) : outR (l.take (ixN l ns + 1)) ns = l.take (ixN l ns) := by
  have hit : hasN ns l[ixN l ns] = true := List.findIdx_getElem (w := h)
  rw [List.take_succ_eq_append_getElem h, outR_snoc]
  have : (ns.any fun x => decide (x = l[ixN l ns].name)) = true := hit
  rw [if_pos this, outR_hasN, List.filter_eq_self]
  intro x hx
  obtain ⟨i, hi, rfl⟩ := List.getElem_of_mem hx
  rw [List.length_take] at hi
  rw [List.getElem_take]
  have := List.not_of_lt_findIdx (p := hasN ns) (xs := l) (i := i) (by unfold ixN at hi; omega)
  simpa using this
end Hd
end Go.Peri
namespace Go.Proofs.Ytmmmaldpalhjeaa
open Go.RowKit Go.Peri
namespace C04
theorem s_cell {w : World} {b off : Nat} {l : List ByteArray} (hc : ∀ i (hi : i < l.length) j u, (sEnc l[i])[j]? = some u → w.cell? ⟨b, off + i * 1 + j, none⟩ = some u) (k : Nat) (hk : k < l.length) : w.cell? ⟨b, off + k, none⟩ = some (.string l[k]) := by
  have := hc k hk 0 _ rfl
  simpa using this

set_option maxRecDepth 100000 in
theorem contains_any {p : Nat → Prop} (v : Value) (ns : List ByteArray) (s : ByteArray) (r : Bool) (W : World) (h : RowsOf p sEnc 1 W v ns) (hl : ns.length ≤ 1000000000000) (hr : ns.any (fun x => decide (x = s)) = r) :
    Calls Try.prog 100 #[v, .string s] W fun e w' => e = .returned (.bool r) ∧ W = w' := by
  have HIX : Hid (Calls Try.prog 153 #[v, .string s] W fun e w' => (∃ i : Int, e = .returned (.int .i64 i) ∧ (0 ≤ i ↔ r = true) ∧ -1 ≤ i ∧ i ≤ 1000000000000) ∧ W = w') := by
    show Calls _ _ _ _ _
    obtain ⟨a, cap, rfl, hlc, hcm, _, hcell⟩ := h
    have HC := hid hcell
    have HR := hid hr
    clear hcell hr
    go_enter Try.func153, Try.ntmps153
    go_wp2_with fail
    go_loopw [8] (fun i wr => W = wr ∧ ∃ k : Nat, k ≤ ns.length ∧ i = .int .i64 k ∧ ∀ j (_ : j < k) (hj : j < ns.length), ns[j] ≠ s) (fun i _ => ns.length - (intOf i).toNat)
    case atStart => exact ⟨rfl, 0, Nat.zero_le _, rfl, fun j hj => absurd hj (Nat.not_lt_zero _)⟩
    case round =>
      obtain ⟨rfl, k, hk, rfl, hno⟩ := hrel
      have HN := hid hno
      clear hno
      by_cases hlt : k < ns.length
      · obtain ⟨b, off, rfl, hpb, hc⟩ := HC.out.resolve_left (by intro e; rw [e] at hlt; simp at hlt)
        have c0 := s_cell hc k hlt
        obtain ⟨bq, hq⟩ : ∃ bq, decide (s = ns[k]) = bq := ⟨_, rfl⟩
        obtain ⟨s1, s2⟩ := strEq_of hq
        have HNext : Hid (bq = false → ∀ j (_ : j < k + 1) (hj : j < ns.length), ns[j] ≠ s) := by
          intro e j hj hjl
          by_cases e2 : j = k
          · subst e2; rw [e] at hq; exact fun h => of_decide_eq_false hq h.symm
          · exact HN.out j (by omega) hjl
        have HHit : Hid (bq = true → r = true) := fun e => by
          rw [e] at hq
          rw [← HR.out, List.any_eq_true]
          exact ⟨ns[k], List.getElem_mem hlt, by simpa using (of_decide_eq_true hq).symm⟩
        clear hc hq
        generalize ns[k] = y at c0 s1 s2
        cases bq
        · go_wp2_with fail
          go_roundw
          case rel => exact ⟨by first | rfl | trivial, k + 1, by omega, by go_num, HNext.out (by simp)⟩
          case measure => simp [intOf]; omega
        · go_wp2_with fail
          go_ret
          exact ⟨⟨k, rfl, by simp [HHit.out (by simp)], by omega, by omega⟩, rfl⟩
      · obtain rfl : k = ns.length := by omega
        have hd : Hid (r = false) := hid (by
          rw [← HR.out, List.any_eq_false]
          intro x hx
          obtain ⟨i, hi, rfl⟩ := List.getElem_of_mem hx
          simpa using HN.out i hi hi)
        go_wp2_with fail
        go_ret
        exact ⟨⟨-1, rfl, by simp [hd.out], by omega, by omega⟩, rfl⟩
  clear h hr
  go_enter Try.func100, Try.ntmps100
  go_wp2_with fail
  refine HIX.out.mono ?_
  rintro e w' ⟨⟨i, rfl, hi, _, _⟩, rfl⟩
  have HI := hid hi
  clear hi
  by_cases h0 : 0 ≤ i
  · have hr := hid (HI.out.1 h0)
    go_wp2_with fail
    go_ret
    exact ⟨by rw [hr.out]; rfl, rfl⟩
  · have hr : Hid (r = false) := hid (by
      cases r
      · rfl
      · exact absurd (HI.out.2 rfl) h0)
    go_wp2_with fail
    go_ret
    exact ⟨by rw [hr.out]; exact ret_bool (decide_eq_false (by omega)), rfl⟩

end C04
end Go.Proofs.Ytmmmaldpalhjeaa
namespace Go.Proofs.Ytmmmaldpalhjeaa
open Go.RowKit Go.Peri
namespace C04
theorem row2 {w : World} {g : Nat} {cs : Array Value} {t : TypeId} (h : Blk w g cs t) {l : List Hd} {lo hi : Nat} (hx : ∀ q, lo ≤ q → q < hi → cs[q]? = (l.flatMap Hd.enc)[q]?) (k : Nat) (hk : k < l.length) (h1 : lo ≤ k * 2) (h2 : k * 2 + 1 < hi) :
    w.cell? ⟨g, k * 2, none⟩ = some (.string l[k].name) ∧ w.cell? ⟨g, k * 2 + 1, none⟩ = some (.string l[k].value) := by
  refine ⟨?_, ?_⟩
  · rw [h.cell, hx _ h1 (by omega)]
    have := flat_get Hd.enc_length l k hk 0 (by omega)
    rw [Nat.add_zero] at this
    rw [this]; rfl
  · rw [h.cell, hx _ (by omega) h2, flat_get Hd.enc_length l k hk 1 (by omega)]; rfl
/-- A row half worked on: its first places hold A, those from k on what they held. -/
structure Half (g cap m k : Nat) (A l : List Hd) (w : World) : Prop where
  ex : ∃ cs, Blk w g cs 154 ∧ cs.size = cap * 2 ∧ (∀ q, q < m * 2 → cs[q]? = (A.flatMap Hd.enc)[q]?) ∧ (∀ q, k * 2 ≤ q → q < l.length * 2 → cs[q]? = (l.flatMap Hd.enc)[q]?)
  len : A.length = m
theorem Half.set {g cap m k : Nat} {A l : List Hd} {w w' : World} {x : Hd} {cs : Array Value} (hb : Blk w g cs 154) (hs : cs.size = cap * 2) (h1 : ∀ q, q < m * 2 → cs[q]? = (A.flatMap Hd.enc)[q]?) (h2 : ∀ q, k * 2 ≤ q → q < l.length * 2 → cs[q]? = (l.flatMap Hd.enc)[q]?) (hA : A.length = m) (hmk : m < k) (hkc : k ≤ cap)
    (hw : w' = (w.setCell ⟨g, m * 2, none⟩ (.string x.name)).setCell ⟨g, m * 2 + 1, none⟩ (.string x.value)) : Half g cap (m + 1) (k + 1) (A ++ [x]) l w' := by
  subst hw
  refine ⟨⟨_, (hb.set _ _).set _ _, by simpa using hs, fun q hq => ?_, fun q hq hq2 => ?_⟩, by simp [hA]⟩
  · rw [Array.getElem?_setIfInBounds, Array.getElem?_setIfInBounds, List.flatMap_append, List.getElem?_append, flat_length Hd.enc_length, hA]
    by_cases e1 : m * 2 + 1 = q
    · subst e1
      rw [if_pos rfl, if_pos (by simp; omega), if_neg (by omega)]
      have : m * 2 + 1 - m * 2 = 1 := by omega
      rw [this]; rfl
    · rw [if_neg e1]
      by_cases e2 : m * 2 = q
      · subst e2
        rw [if_pos rfl, if_pos (by omega), if_neg (by omega), Nat.sub_self]; rfl
      · rw [if_neg e2, if_pos (by omega)]
        exact h1 q (by omega)
  · rw [Array.getElem?_setIfInBounds, Array.getElem?_setIfInBounds, if_neg (by omega), if_neg (by omega)]
    exact h2 q (by omega) hq2
def DelQ (base g cap : Nat) (A : List Hd) (w : World) (e : Ending) (w' : World) : Prop := e = .returned (.slice (some ⟨g, 0, none⟩) A.length cap) ∧ Only [g] w w' ∧ Hid (w'.ownsRow base 154 2 (.slice (some ⟨g, 0, none⟩) A.length cap) A.length (A.flatMap Hd.enc))
end C04
end Go.Proofs.Ytmmmaldpalhjeaa
namespace Go.Proofs.Ytmmmaldpalhjeaa
open Go.RowKit Go.Peri
namespace C04
end C04
end Go.Proofs.Ytmmmaldpalhjeaa
namespace Go.Proofs.Ytmmmaldpalhjeaa
open Go.RowKit Go.Peri
namespace C04
theorem owns_below {w w' : World} {base : Nat} {e : TypeId} {size : Nat} {v : Value} {n : Nat} {xs : List Value} (h : w.ownsRow base e size v n xs) (hb : Below w.heap.size w w') : w'.ownsRow base e size v n xs :=
  owns_keep h (Only.of_below hb : Only [] w w') (fun k _ hk => by simp at hk)
theorem any_snoc (ns : List ByteArray) (s : ByteArray) (q : Nat) (hq : q < ns.length) : (ns.take (q + 1)).any (fun x => decide (x = s)) = ((ns.take q).any (fun x => decide (x = s)) || decide (ns[q] = s)) := by
  rw [List.take_succ_eq_append_getElem hq, List.any_append]
  simp
end C04
end Go.Proofs.Ytmmmaldpalhjeaa
namespace Go.Peri
open Go.RowKit
theorem RowsOf.takeN {α : Type} {p : Nat → Prop} {enc : α → List Value} {k : Nat} {w : World} {a : Option Addr} {n cap : Nat} {l : List α} (h : RowsOf p enc k w (.slice a n cap) l) (m : Nat) (hm : m ≤ n) : RowsOf p enc k w (.slice a m cap) (l.take m) := by
  obtain ⟨a', cap', e, h2, h3, h4, h5⟩ := h
  cases e
  refine ⟨a, cap, ?_, by rw [List.length_take]; omega, h3, h4, ?_⟩
  · rw [List.length_take, Nat.min_eq_left hm]
  · refine h5.imp (fun e => by rw [e]; simp) ?_
    rintro ⟨b, off, g1, g2, g3⟩
    refine ⟨b, off, g1, g2, fun i hi j u hu => ?_⟩
    rw [List.length_take] at hi
    rw [List.getElem_take] at hu
    exact g3 i (by omega) j u hu
theorem RowsOf.dropN {α : Type} {p : Nat → Prop} {enc : α → List Value} {k : Nat} {w : World} {b off n cap : Nat} {l : List α} (h : RowsOf p enc k w (.slice (some ⟨b, off, none⟩) n cap) l) (m : Nat) (hm : m ≤ n) : RowsOf p enc k w (.slice (some ⟨b, off + m * k, none⟩) (n - m) (cap - m)) (l.drop m) := by
  obtain ⟨a', cap', e, h2, h3, h4, h5⟩ := h
  cases e
  refine ⟨_, _, by rw [List.length_drop], by rw [List.length_drop]; omega, by omega, by simp, ?_⟩
  refine h5.imp (fun e => by rw [e]; simp) ?_
  rintro ⟨b', off', g1, g2, g3⟩
  cases g1
  refine ⟨b, off + m * k, rfl, g2, fun i hi j u hu => ?_⟩
  rw [List.length_drop] at hi
  rw [List.getElem_drop] at hu
  have := g3 (m + i) (by omega) j u hu
  rw [← this]
  congr 2
  rw [Nat.add_mul]
  omega
end Go.Peri
namespace Go.Proofs.Ytmmmaldpalhjeaa
open Go.RowKit Go.Peri
namespace C04
end C04
end Go.Proofs.Ytmmmaldpalhjeaa
namespace Go.Proofs.Ytmmmaldpalhjeaa
open Go.RowKit Go.Peri
namespace C04
def metB (l : List Hd) (n : ByteArray) (k : Nat) : Bool := decide (Hd.ix (l.take k) n < (l.take k).length)
end C04
end Go.Proofs.Ytmmmaldpalhjeaa
namespace Go.Peri
namespace Hd
def fewB (h : Hd) : Bool := decide (h.name.size + h.value.size ≤ 400)
def few (l : List Hd) : Bool := decide (l.length ≤ 60) && l.all fewB
theorem few_len {l : List Hd} (h : few l = true) : l.length ≤ 60 := by
  unfold few at h
  rw [Bool.and_eq_true] at h
  exact of_decide_eq_true h.1
theorem few_mem {l : List Hd} (h : few l = true) : ∀ x ∈ l, x.name.size + x.value.size ≤ 400 := by
  unfold few at h
  rw [Bool.and_eq_true, List.all_eq_true] at h
  exact fun x hx => of_decide_eq_true (h.2 x hx)
end Hd
end Go.Peri
namespace Go.Proofs.Ytmmmaldpalhjeaa
open Go.RowKit Go.Peri
namespace C04
theorem eqHd (a b : Hd) (w : World) : (Op.equalIn 10000 154 (.agg #[.string a.name, .string a.value]) (.agg #[.string b.name, .string b.value])).run Try.prog w = .ok (decide (a = b)) w := by
  rw [show (10000 : Nat) = 9999 + 1 from rfl, run_equalIn_struct w 9999 154 _ _ (by kernel_rfl) (by kernel_rfl)]
  simp only [Program.fieldsOf, Try.underlying154, Op.eqFields]
  go_simp
  have inj : ∀ x y : ByteArray, x.toList = y.toList → x = y := fun x y h => Go.WideShapes.bytes_inj (by rw [← ByteArray.toList_eq, ← ByteArray.toList_eq, h])
  by_cases h : a = b
  · subst h; simp
  · rw [decide_eq_false h]
    have ext : a.name.toList = b.name.toList → a.value.toList = b.value.toList → a = b := by
      intro h1 h2
      have h1 := inj _ _ h1
      have h2 := inj _ _ h2
      obtain ⟨⟩ := a
      obtain ⟨⟩ := b
      simp_all
    repeat' (split <;> try rfl)
    all_goals exact absurd (ext (by assumption) (by assumption)) h

set_option maxRecDepth 100000 in
theorem texts_any {p q : Nat → Prop} (u v : Value) (l m : List ByteArray) (r : Bool) (W : World) (h : RowsOf p sEnc 1 W u l) (hp : ∀ b, p b → b < W.heap.size) (h2 : RowsOf q sEnc 1 W v m) (hq : ∀ b, q b → b < W.heap.size) (hl : l.length ≤ 1000000000000) (hm : m.length ≤ 1000000000000)
    (hr : decide (l = m) = r) :
    Calls Try.prog 21 #[u, v] W fun e w' => e = .returned (.bool r) ∧ Below W.heap.size W w' := by
  obtain ⟨a, cap, rfl, hlc, hcm, _, hcell⟩ := h
  obtain ⟨a2, cap2, rfl, hlc2, hcm2, _, hcell2⟩ := h2
  have HP := hid hp
  have HQ := hid hq
  have HC := hid hcell
  have HC2 := hid hcell2
  have HR := hid hr
  clear hp hq hcell hcell2 hr
  by_cases hlen : l.length = m.length
  · have HLEN := hid hlen
    have hle2 : ((l.length : Int) == (m.length : Int)) = true := by simp [hlen]
    have hle3 : ((m.length : Int) == (m.length : Int)) = true := by simp
    generalize hn : l.length = n at hlen hlc hl HLEN hle2
    have HN := hid hn
    clear hn
    subst hlen
    go_enter Try.func21, Try.ntmps21
    go_wp2_with fail
    go_loopw [5] (fun i wr => ∃ k : Nat, k ≤ m.length ∧ i = .int .i64 k ∧ Below W.heap.size W wr ∧ ∀ j (_ : j < k) (h1 : j < l.length) (h2 : j < m.length), l[j] = m[j]) (fun i _ => m.length - (intOf i).toNat)
    case atStart => exact ⟨0, Nat.zero_le _, rfl, Below.refl _ _, fun j hj => absurd hj (Nat.not_lt_zero _)⟩
    case round =>
      obtain ⟨k, hk, rfl, hb, hno⟩ := hrel
      have HB := hid hb
      have HE := hid hno
      clear hb hno
      by_cases hlt : k < m.length
      · have hlt1 : k < l.length := by rw [HN.out]; exact hlt
        obtain ⟨b, off, rfl, hpb, hc⟩ := HC.out.resolve_left (by intro e; rw [e] at hlt1; simp at hlt1)
        obtain ⟨b2, off2, rfl, hpb2, hc2⟩ := HC2.out.resolve_left (by intro e; rw [e] at hlt; simp at hlt)
        have hbl : b < wr.heap.size := Nat.lt_of_lt_of_le (HP.out b hpb) HB.out.size
        have hbl2 : b2 < wr.heap.size := Nat.lt_of_lt_of_le (HQ.out b2 hpb2) HB.out.size
        have c0 : wr.cell? ⟨b, off + k, none⟩ = some (.string l[k]) := (HB.out.cell (p := ⟨b, off + k, none⟩) (HP.out b hpb)).trans (by have := hc k hlt1 0 _ rfl; simpa using this)
        have d0 : wr.cell? ⟨b2, off2 + k, none⟩ = some (.string m[k]) := (HB.out.cell (p := ⟨b2, off2 + k, none⟩) (HQ.out b2 hpb2)).trans (by have := hc2 k hlt 0 _ rfl; simpa using this)
        have HNext : Hid (l[k] = m[k] → ∀ j (_ : j < k + 1) (h1 : j < l.length) (h2 : j < m.length), l[j] = m[j]) := by
          intro he j hj h1 h2
          by_cases e : j = k
          · subst e; exact he
          · exact HE.out j (by omega) h1 h2
        have HHit : Hid (l[k] ≠ m[k] → l ≠ m) := fun hh e => hh (by subst e; rfl)
        clear hc hc2
        generalize l[k] = x at c0 HNext HHit
        generalize m[k] = y at d0 HNext HHit
        have hk2 : (k : Int) < (m.length : Int) := by omega
        obtain ⟨bq, hbq⟩ : ∃ bq, decide (x = y) = bq := ⟨_, rfl⟩
        obtain ⟨s1, s2⟩ := strEq_of hbq
        have HX := hid hbq
        clear hbq
        cases bq
        · go_wp2_with fail
          go_quiet (fail)
          go_wp2_with fail
          go_ret
          exact ⟨by rw [← HR.out, decide_eq_false (HHit.out (of_decide_eq_false HX.out))]; rfl, HB.out.trans ⟨rfl, rfl, rfl, Nat.le_refl _, fun _ _ => rfl⟩⟩
        · go_wp2_with fail
          go_quiet (fail)
          go_wp2_with fail
          go_roundw
          case rel => exact ⟨k + 1, by omega, by go_num, HB.out.trans ⟨rfl, rfl, rfl, Nat.le_refl _, fun _ _ => rfl⟩, HNext.out (of_decide_eq_true HX.out)⟩
          case measure => simp [intOf]; omega
      · obtain rfl : k = m.length := by omega
        go_wp2_with fail
        go_ret
        have : l = m := List.ext_getElem HN.out (fun j h1 h2 => HE.out j h2 h1 h2)
        exact ⟨by rw [← HR.out, decide_eq_true this]; rfl, HB.out⟩
  · have HL : Hid (l ≠ m) := fun e => hlen (by rw [e])
    have hle2 : ((l.length : Int) == (m.length : Int)) = false := by rw [beq_eq_false_iff_ne]; omega
    clear hlen
    go_enter Try.func21, Try.ntmps21
    go_wp2_with fail
    go_ret
    exact ⟨by rw [← HR.out, decide_eq_false HL.out]; rfl, Below.refl _ _⟩

end C04
end Go.Proofs.Ytmmmaldpalhjeaa
namespace Go.Peri
open Go.RowKit
theorem rows_of_blk {α : Type} {enc : α → List Value} {k : Nat} (hk : ∀ x, (enc x).length = k) {w : World} {g t n : Nat} {l : List α} (h : Blk w g (l.flatMap enc).toArray t) (hn : l.length = n) (hm : n ≤ maxLen) : RowsOf (· = g) enc k w (.slice (some ⟨g, 0, none⟩) n n) l := by
  subst hn
  refine ⟨_, _, rfl, Nat.le_refl _, hm, by simp, .inr ⟨g, 0, rfl, rfl, fun i hi j u hu => ?_⟩⟩
  have hj : j < k := by have := (List.getElem?_eq_some_iff.1 hu).1; rw [hk] at this; exact this
  rw [h.cell, Nat.zero_add, List.getElem?_toArray, flat_get hk l i hi j hj]
  exact hu
/-- A reading, whatever is known of its block. -/
def Reads {α : Type} (enc : α → List Value) (k : Nat) (w : World) (v : Value) (l : List α) : Prop := ∃ p : Nat → Prop, (∀ b, p b → b < w.heap.size) ∧ RowsOf p enc k w v l
theorem Reads.later {α : Type} {enc : α → List Value} {k : Nat} {w w' : World} {v : Value} {l : List α} (h : Reads enc k w v l) (hb : Below w.heap.size w w') : Reads enc k w' v l := by
  obtain ⟨p, h1, h2⟩ := h
  exact ⟨p, fun b hb' => Nat.lt_of_lt_of_le (h1 b hb') hb.size, h2.below hb h1⟩
theorem Reads.blk {α : Type} {enc : α → List Value} {k : Nat} (hk : ∀ x, (enc x).length = k) {w : World} {g t n : Nat} {l : List α} (h : Blk w g (l.flatMap enc).toArray t) (hn : l.length = n) (hm : n ≤ maxLen) : Reads enc k w (.slice (some ⟨g, 0, none⟩) n n) l :=
  ⟨(· = g), fun b hb => by rw [hb]; exact h.lt, rows_of_blk hk h hn hm⟩
theorem Reads.owns {α : Type} {enc : α → List Value} {k : Nat} (hk : ∀ x, (enc x).length = k) {w : World} {base : Nat} {e : TypeId} {v : Value} {l : List α} (h : w.ownsRow base e k v l.length (l.flatMap enc)) : Reads enc k w v l := ⟨_, fun _ hb => hb.2, RowsOf.of_owns hk h⟩
theorem Reads.form {α : Type} {enc : α → List Value} {k : Nat} {w : World} {v : Value} {l : List α} (h : Reads enc k w v l) : ∃ a cap, v = .slice a l.length cap := by
  obtain ⟨_, _, h⟩ := h
  exact h.form
/-- A new slice, as the laws want it. -/
def NewR {α : Type} (enc : α → List Value) (k n : Nat) (W : World) (l : List α) (e : Ending) (w' : World) : Prop :=
  ∃ a cap, e = .returned (.slice a n cap) ∧ Below W.heap.size W w' ∧ Hid (Reads enc k w' (.slice a n cap) l)
theorem NewRows.newR {α : Type} {enc : α → List Value} {k n : Nat} (hk : ∀ x, (enc x).length = k) {T : TypeId} {W : World} {l m : List α} {e : Ending} {w' : World} (h : NewRows enc k T W l e w') (hm : l = m) (hn : m.length = n) : NewR enc k n W m e w' := by
  subst hm hn
  obtain ⟨a, cap, h1, h2, h3⟩ := h
  exact ⟨a, cap, h1, h2, Reads.owns hk h3.out⟩
end Go.Peri
namespace Go.Proofs.Ytmmmaldpalhjeaa
open Go.RowKit Go.Peri
namespace C04
theorem texts_list (u v : Value) (l : List ByteArray) (W : World) (h : Reads sEnc 1 W u l) (h2 : Reads sEnc 1 W v l) (hl : l.length ≤ 1000000) :
    Calls Try.prog 21 #[u, v] W fun e w' => e = .returned (.bool true) ∧ Below W.heap.size W w' := by
  obtain ⟨p, hp, hr⟩ := h
  obtain ⟨q, hq, hr2⟩ := h2
  exact texts_any u v l l true W hr hp hr2 hq (by omega) (by omega) (decide_eq_true rfl)
end C04
end Go.Proofs.Ytmmmaldpalhjeaa
namespace Go.Proofs.Ytmmmaldpalhjeaa
open Go.RowKit Go.Peri
namespace C04
end C04
end Go.Proofs.Ytmmmaldpalhjeaa
