/- Walks of layer 5 and 11: bytes between two; methods; no condition. Walks of layer 5 and 11: beginnings of texts, methods and paths of the program; no condition. Walks of layer 5 and 11: requests of which one thing is told; no condition. Walks of layer 11 (pred): all kinds; no condition. Walks of layer 11 (pred): what is asked of a kind; no condition. Walks of layer 11 (pred): no kind; the document's checks; no condition. Walks of layer 11 (pred): whether a predicate of a kind without a name may be; no condition. Walks of layer 11 (pred): whether a predicate of kinds 2, 5, 6 may be; no condition. Walks of layer 11 (pred): no kind is checked; how a request is matched by method, host, path, beginning; no condition. Walks of layer 11 (pred): the document's check; no condition. Walks of layer 11 (pred): the document's check of no kind; no condition. -/
import Derived.Test.YtmmmaldpalhjeaaMg02
namespace Go.Proofs.Ytmmmaldpalhjeaa
open Go.RowKit Go.Peri
namespace C11
def inB (lo hi : Nat) (b : UInt8) : Bool := decide (lo ≤ b.toNat) && decide (b.toNat ≤ hi)
theorem inB_in {lo hi : Nat} {b : UInt8} (h : lo ≤ b.toNat ∧ b.toNat ≤ hi) : inB lo hi b = true := by unfold inB; simp [h.1, h.2]
theorem inB_out {lo hi : Nat} {b : UInt8} (h : ¬ (lo ≤ b.toNat ∧ b.toNat ≤ hi)) : inB lo hi b = false := by
  unfold inB
  by_cases h1 : lo ≤ b.toNat
  · have : ¬ b.toNat ≤ hi := fun h2 => h ⟨h1, h2⟩
    simp [this]
  · simp [h1]
def allIn (s : ByteArray) (lo hi : Nat) : Bool := s.data.toList.all (inB lo hi)
set_option maxRecDepth 100000 in
theorem each_any (s : ByteArray) (lo hi : Nat) (r : Bool) (W : World) (hs : s.size ≤ 1000000000000000) (hr : allIn s lo hi = r) :
    Calls Try.prog 240 #[.string s, .int .u8 lo, .int .u8 hi] W fun e w' => e = .returned (.bool r) ∧ W = w' := by
  have HR := hid hr
  clear hr
  go_enter Try.func240, Try.ntmps240
  go_wp2_with fail
  go_loopw [10] (fun i wr => W = wr ∧ ∃ k : Nat, k ≤ s.size ∧ i = .int .i64 k ∧ (s.data.toList.take k).all (inB lo hi) = true) (fun i _ => s.size - (intOf i).toNat)
  case atStart => exact ⟨rfl, 0, Nat.zero_le _, rfl, by simp⟩
  case round =>
    obtain ⟨rfl, k, hk, rfl, hall⟩ := hrel
    have HA := hid hall
    clear hall
    by_cases hlt : k < s.size
    · have hlt' : k < s.data.toList.length := by simpa using hlt
      have e1 : s.data.toList[k] = s[k] := rfl
      have HNext : Hid (inB lo hi s[k] = true → (s.data.toList.take (k + 1)).all (inB lo hi) = true) := hid (fun h => Hd.all_snoc hlt' HA.out (by rw [e1]; exact h))
      have HHit : Hid (inB lo hi s[k] = false → allIn s lo hi = false) := hid (fun h => Hd.all_hit hlt' (by rw [e1]; exact h))
      clear e1
      by_cases g1 : ((s[k]'hlt).toNat : Int) < (lo : Int)
      · have HV := hid (HHit.out (inB_out (by omega)))
        go_wp2_with fail
        go_ret
        exact ⟨by rw [← HR.out, HV.out]; rfl, rfl⟩
      by_cases g2 : (hi : Int) < ((s[k]'hlt).toNat : Int)
      · have HV := hid (HHit.out (inB_out (by omega)))
        go_wp2_with fail
        go_ret
        exact ⟨by rw [← HR.out, HV.out]; rfl, rfl⟩
      · have HV := hid (HNext.out (inB_in (by omega)))
        go_wp2_with fail
        go_roundw
        case rel => exact ⟨by first | rfl | trivial, k + 1, by omega, by go_num, HV.out⟩
        case measure => simp [intOf]; omega
    · obtain rfl : k = s.size := by omega
      have hd : Hid (allIn s lo hi = true) := hid (by have := HA.out; rwa [List.take_of_length_le (by simp)] at this)
      go_wp2_with fail
      go_ret
      exact ⟨by rw [← HR.out, hd.out]; rfl, rfl⟩
def eachR (s : ByteArray) (least most : Nat) (lo hi : Nat) : Bool := decide (least ≤ s.size) && (decide (s.size ≤ most) && allIn s lo hi)
set_option maxRecDepth 100000 in
theorem reach_any (s : ByteArray) (least most lo hi : Nat) (r : Bool) (W : World) (hs : s.size ≤ 1000000000000000) (hr : eachR s least most lo hi = r) :
    Calls Try.prog 188 #[.string s, .int .i64 least, .int .i64 most, .int .u8 lo, .int .u8 hi] W fun e w' => e = .returned (.bool r) ∧ W = w' := by
  unfold eachR at hr
  by_cases h1 : (s.size : Int) < (least : Int)
  · rw [decide_eq_false (by omega), Bool.false_and] at hr
    subst hr
    go_enter Try.func188, Try.ntmps188
    go_wp2_with fail
    go_ret
    exact ⟨rfl, rfl⟩
  rw [decide_eq_true (show least ≤ s.size by omega), Bool.true_and] at hr
  by_cases h2 : (most : Int) < (s.size : Int)
  · rw [decide_eq_false (by omega), Bool.false_and] at hr
    subst hr
    go_enter Try.func188, Try.ntmps188
    go_wp2_with fail
    go_ret
    exact ⟨rfl, rfl⟩
  rw [decide_eq_true (show s.size ≤ most by omega), Bool.true_and] at hr
  have HR := hid hr
  clear hr
  go_enter Try.func188, Try.ntmps188
  go_wp2_with fail
  go_loopw [11] (fun i wr => W = wr ∧ ∃ k : Nat, k ≤ s.size ∧ i = .int .i64 k ∧ (s.data.toList.take k).all (inB lo hi) = true) (fun i _ => s.size - (intOf i).toNat)
  case atStart => exact ⟨rfl, 0, Nat.zero_le _, rfl, by simp⟩
  case round =>
    obtain ⟨rfl, k, hk, rfl, hall⟩ := hrel
    have HA := hid hall
    clear hall
    by_cases hlt : k < s.size
    · have hlt' : k < s.data.toList.length := by simpa using hlt
      have e1 : s.data.toList[k] = s[k] := rfl
      have HNext : Hid (inB lo hi s[k] = true → (s.data.toList.take (k + 1)).all (inB lo hi) = true) := hid (fun h => Hd.all_snoc hlt' HA.out (by rw [e1]; exact h))
      have HHit : Hid (inB lo hi s[k] = false → allIn s lo hi = false) := hid (fun h => Hd.all_hit hlt' (by rw [e1]; exact h))
      clear e1
      by_cases g1 : ((s[k]'hlt).toNat : Int) < (lo : Int)
      · have HV := hid (HHit.out (inB_out (by omega)))
        go_wp2_with fail
        go_ret
        exact ⟨by rw [← HR.out, HV.out]; rfl, rfl⟩
      by_cases g2 : (hi : Int) < ((s[k]'hlt).toNat : Int)
      · have HV := hid (HHit.out (inB_out (by omega)))
        go_wp2_with fail
        go_ret
        exact ⟨by rw [← HR.out, HV.out]; rfl, rfl⟩
      · have HV := hid (HNext.out (inB_in (by omega)))
        go_wp2_with fail
        go_roundw
        case rel => exact ⟨by first | rfl | trivial, k + 1, by omega, by go_num, HV.out⟩
        case measure => simp [intOf]; omega
    · obtain rfl : k = s.size := by omega
      have hd : Hid (allIn s lo hi = true) := hid (by have := HA.out; rwa [List.take_of_length_le (by simp)] at this)
      go_wp2_with fail
      go_ret
      exact ⟨by rw [← HR.out, hd.out]; rfl, rfl⟩
def methodOk (s : ByteArray) : Bool := eachR s 1 8 65 90
def pathOk (s : ByteArray) : Bool := eachR s 1 64 33 126 && decide ((s.data.toList.getD 0 0).toNat = 47)
set_option maxRecDepth 100000 in
theorem rmethod_any (s : ByteArray) (r : Bool) (W : World) (hs : s.size ≤ 1000000000000000) (hr : methodOk s = r) :
    Calls Try.prog 156 #[.string s] W fun e w' => e = .returned (.bool r) ∧ W = w' := by
  have HE := hid (fun w => reach_any s 1 8 65 90 r w hs hr)
  clear hr
  go_enter Try.func156, Try.ntmps156
  go_wp2_with fail
  refine (HE.out _).mono ?_
  rintro e w' ⟨rfl, rfl⟩
  go_wp2_with fail
  go_ret
  exact ⟨rfl, rfl⟩
set_option maxRecDepth 100000 in
theorem rpath_any (s : ByteArray) (r : Bool) (W : World) (hs : s.size ≤ 1000000000000000) (hr : pathOk s = r) :
    Calls Try.prog 142 #[.string s] W fun e w' => e = .returned (.bool r) ∧ W = w' := by
  unfold pathOk at hr
  obtain ⟨q, hq⟩ : ∃ q, eachR s 1 64 33 126 = q := ⟨_, rfl⟩
  have HE := hid (fun w => reach_any s 1 64 33 126 q w hs hq)
  rw [hq] at hr
  cases q
  · rw [Bool.false_and] at hr
    subst hr
    clear hq
    go_enter Try.func142, Try.ntmps142
    go_wp2_with fail
    refine (HE.out _).mono ?_
    rintro e w' ⟨rfl, rfl⟩
    go_wp2_with fail
    go_ret
    exact ⟨rfl, rfl⟩
  · have h0 : 0 < s.size := by
      unfold eachR at hq
      rw [Bool.and_eq_true] at hq
      have := of_decide_eq_true hq.1
      omega
    have hl : 0 < s.data.toList.length := by simpa using h0
    rw [Bool.true_and, List.getD_eq_getElem?_getD, List.getElem?_eq_getElem hl] at hr
    replace hr : decide ((s[0]'h0).toNat = 47) = r := hr
    have hb : (((s[0]'h0).toNat : Int) == 47) = r := by
      rw [← hr]
      by_cases g : (s[0]'h0).toNat = 47
      · rw [g]; rfl
      · rw [decide_eq_false g]; exact beq_eq_false_iff_ne.2 (by omega)
    clear hq hr
    go_enter Try.func142, Try.ntmps142
    go_wp2_with fail
    refine (HE.out _).mono ?_
    rintro e w' ⟨rfl, rfl⟩
    go_wp2_with fail
    go_ret
    exact ⟨rfl, rfl⟩
end C11
end Go.Proofs.Ytmmmaldpalhjeaa
namespace Go.Proofs.Ytmmmaldpalhjeaa
open Go.RowKit Go.Peri
namespace C11
def prefR (s t : ByteArray) : Bool := decide (t.size ≤ s.size) && decide (s.extract 0 t.size = t)
set_option maxRecDepth 100000 in
theorem hp_any (s t : ByteArray) (r : Bool) (W : World) (hr : prefR s t = r) :
    Calls Try.prog 246 #[.string s, .string t] W fun e w' => e = .returned (.bool r) ∧ W = w' := by
  unfold prefR at hr
  by_cases h1 : (t.size : Int) ≤ (s.size : Int)
  · rw [decide_eq_true (show t.size ≤ s.size by omega), Bool.true_and] at hr
    have k1 := (strEq_of hr).eq
    have k2 := (strEq_of hr).ne
    clear hr
    go_enter Try.func246, Try.ntmps246
    go_wp2_with fail
    go_ret
    exact ⟨rfl, rfl⟩
  · rw [decide_eq_false (by omega), Bool.false_and] at hr
    subst hr
    go_enter Try.func246, Try.ntmps246
    go_wp2_with fail
    go_ret
    exact ⟨rfl, rfl⟩
set_option maxRecDepth 100000 in
theorem hasPrefix_any (s t : ByteArray) (r : Bool) (W : World) (hr : prefR s t = r) :
    Calls Try.prog 228 #[.string s, .string t] W fun e w' => e = .returned (.bool r) ∧ W = w' := by
  have HE := hid (fun w => hp_any s t r w hr)
  clear hr
  go_enter Try.func228, Try.ntmps228
  go_wp2_with fail
  refine (HE.out _).mono ?_
  rintro e w' ⟨rfl, rfl⟩
  go_wp2_with fail
  go_ret
  exact ⟨rfl, rfl⟩
set_option maxRecDepth 100000 in
theorem method_any (s : ByteArray) (r : Bool) (W : World) (hs : s.size ≤ 1000000000000000) (hr : methodOk s = r) :
    Calls Try.prog 216 #[.string s] W fun e w' => e = .returned (.bool r) ∧ W = w' := by
  unfold methodOk eachR at hr
  by_cases h0 : s.size = 0
  · have hem : s = ByteArray.empty := ByteArray.ext (Array.eq_empty_of_size_eq_zero h0)
    rw [decide_eq_false (by omega), Bool.false_and] at hr
    subst hr
    subst hem
    go_enter Try.func216, Try.ntmps216
    go_wp2_with fail
    go_ret
    exact ⟨rfl, rfl⟩
  have t1 : s.toList.isEmpty = false := by
    rw [Bool.eq_false_iff]; intro h
    apply h0
    rw [List.isEmpty_iff, ByteArray.toList_eq] at h
    have := congrArg List.length h
    simpa using this
  have t2 : (!s.toList.isEmpty) = true := by rw [t1]; rfl
  have t3 : ¬ s.toList = [] := by rw [← List.isEmpty_iff, t1]; simp
  rw [decide_eq_true (show 1 ≤ s.size by omega), Bool.true_and] at hr
  by_cases h8 : (s.size : Int) ≤ 8
  · rw [decide_eq_true (show s.size ≤ 8 by omega), Bool.true_and] at hr
    have HE := hid (fun w => each_any s 65 90 r w hs hr)
    clear hr
    go_enter Try.func216, Try.ntmps216
    go_wp2_with fail
    refine (HE.out _).mono ?_
    rintro e w' ⟨rfl, rfl⟩
    go_wp2_with fail
    go_ret
    exact ⟨rfl, rfl⟩
  · rw [decide_eq_false (by omega), Bool.false_and] at hr
    subst hr
    go_enter Try.func216, Try.ntmps216
    go_wp2_with fail
    go_ret
    exact ⟨rfl, rfl⟩
theorem pathOk_eq (s : ByteArray) : pathOk s = (prefR s ⟨#[47]⟩ && (decide (s.size ≤ 64) && allIn s 33 126)) := by
  unfold pathOk eachR prefR
  by_cases h : 1 ≤ s.size
  · have hl : 0 < s.data.toList.length := by rw [Array.length_toList]; exact h
    have e : decide (s.extract 0 (ByteArray.size ⟨#[47]⟩) = ⟨#[47]⟩) = decide ((s.data.toList.getD 0 0).toNat = 47) := by
      rw [decide_eq_decide, List.getD_eq_getElem?_getD, List.getElem?_eq_getElem hl]
      constructor
      · intro g
        have g2 := congrArg (fun x : ByteArray => x.data.toList) g
        simp only [ByteArray.data_extract, Array.toList_extract, List.extract_eq_take_drop, List.drop_zero] at g2
        have g3 : s.data.toList.take 1 = [47] := g2
        have : s.data.toList[0] = 47 := by
          have := congrArg (fun l : List UInt8 => l[0]?) g3
          simp only [List.getElem?_take] at this
          simpa [List.getElem?_eq_getElem hl] using this
        show (s.data.toList[0]).toNat = 47
        rw [this]; rfl
      · intro g
        have g1 : s.data.toList[0] = 47 := UInt8.toNat_inj.1 g
        apply ByteArray.ext
        apply Array.toList_inj.1
        simp only [ByteArray.data_extract, Array.toList_extract, List.extract_eq_take_drop, List.drop_zero]
        show s.data.toList.take 1 = [47]
        match hq : s.data.toList, hl, g1 with
        | a :: l, _, g1 => simp only [List.take_succ_cons, List.take_zero]; rw [show a = 47 from g1]
    have e2 : decide (ByteArray.size ⟨#[47]⟩ ≤ s.size) = true := decide_eq_true h
    rw [e, e2, decide_eq_true h, Bool.true_and, Bool.true_and, Bool.and_comm]
  · have e2 : decide (ByteArray.size ⟨#[47]⟩ ≤ s.size) = false := decide_eq_false h
    rw [e2, decide_eq_false h]; simp
set_option maxRecDepth 100000 in
theorem path_any (s : ByteArray) (r : Bool) (W : World) (hs : s.size ≤ 1000000000000000) (hr : pathOk s = r) :
    Calls Try.prog 217 #[.string s] W fun e w' => e = .returned (.bool r) ∧ W = w' := by
  rw [pathOk_eq] at hr
  obtain ⟨q, hq⟩ : ∃ q, prefR s ⟨#[47]⟩ = q := ⟨_, rfl⟩
  have HP := hid (fun w => hasPrefix_any s ⟨#[47]⟩ q w hq)
  rw [hq] at hr
  clear hq
  cases q
  · rw [Bool.false_and] at hr
    subst hr
    go_enter Try.func217, Try.ntmps217
    go_wp2_with fail
    refine (HP.out _).mono ?_
    rintro e w' ⟨rfl, rfl⟩
    go_wp2_with fail
    go_ret
    exact ⟨rfl, rfl⟩
  rw [Bool.true_and] at hr
  by_cases h8 : (s.size : Int) ≤ 64
  · rw [decide_eq_true (show s.size ≤ 64 by omega), Bool.true_and] at hr
    have HE := hid (fun w => each_any s 33 126 r w hs hr)
    clear hr
    go_enter Try.func217, Try.ntmps217
    go_wp2_with fail
    refine (HP.out _).mono ?_
    rintro e w' ⟨rfl, rfl⟩
    go_wp2_with fail
    refine (HE.out _).mono ?_
    rintro e w' ⟨rfl, rfl⟩
    go_wp2_with fail
    go_ret
    exact ⟨rfl, rfl⟩
  · rw [decide_eq_false (by omega), Bool.false_and] at hr
    subst hr
    go_enter Try.func217, Try.ntmps217
    go_wp2_with fail
    refine (HP.out _).mono ?_
    rintro e w' ⟨rfl, rfl⟩
    go_wp2_with fail
    go_ret
    exact ⟨rfl, rfl⟩
end C11
end Go.Proofs.Ytmmmaldpalhjeaa
namespace Go.Proofs.Ytmmmaldpalhjeaa
open Go.RowKit Go.Peri
namespace C11
set_option maxRecDepth 100000 in
theorem tail_none (W : World) : Calls Try.prog 218 #[.slice none 0 0, .string ⟨#[]⟩] W fun e w' => e = .returned (.int .i64 0) ∧ Below W.heap.size W w' := by
  have HC : Hid (∀ w, Calls Try.prog 241 #[.slice none 0 0] w fun e w' => e = .returned (.int .i64 0) ∧ Below w.heap.size w w') := hid (fun w => C04.check_any (p := fun _ => False) _ [] w (RowsOf.nil _ _ _ _) (fun _ h => h.elim) (fun _ h => by simp at h) (by decide))
  go_enter Try.func218, Try.ntmps218
  go_wp2_with fail
  refine (HC.out _).mono ?_
  rintro e w1 ⟨rfl, hb1⟩
  have HB1 := hid hb1
  clear hb1
  go_wp2_with fail
  go_ret
  exact ⟨rfl, HB1.out⟩
/-- Why a request of these may not be. -/
def told (m h p : ByteArray) : Int := if methodOk m = true then (if Hd.nameOk h = true then (if pathOk p = true then 0 else 12) else 7) else 3
abbrev req (m h p : ByteArray) : Value := .agg #[.string m, .string h, .string p, .slice none 0 0, .string ⟨#[]⟩]
set_option maxRecDepth 100000 in
set_option maxHeartbeats 1000000 in
theorem mcheck_any (m h p : ByteArray) (r : Int) (W : World) (hm : m.size ≤ 1000000000000000) (hh : h.size ≤ 1000000000000000) (hp : p.size ≤ 1000000000000000) (hr : told m h p = r) :
    Calls Try.prog 186 #[.agg #[.string m, .string h, .string p, .slice none 0 0, .string ⟨#[]⟩]] W fun e w' => e = .returned (.int .i64 r) ∧ Below W.heap.size W w' := by
  obtain ⟨b1, q1⟩ : ∃ b, methodOk m = b := ⟨_, rfl⟩
  obtain ⟨b2, q2⟩ : ∃ b, Hd.nameOk h = b := ⟨_, rfl⟩
  obtain ⟨b3, q3⟩ : ∃ b, pathOk p = b := ⟨_, rfl⟩
  have HM := hid (fun w => method_any m b1 w hm q1)
  have HN := hid (fun w => C04.name_any h w hh)
  have HP := hid (fun w => path_any p b3 w hp q3)
  have HT := hid tail_none
  unfold told at hr
  rw [q2] at HN
  rw [q1, q2, q3] at hr
  have HR := hid hr
  have HB0 : Hid (Below W.heap.size W (W.alloc (.cells #[.string m, .string h, .string p, .slice none 0 0, .string ⟨#[]⟩] 67))) := by show Below _ _ _; go_grown
  clear q1 q2 q3 hr
  cases b1
  · go_enter Try.func186, Try.ntmps186
    go_wp2_with fail
    refine (HM.out _).mono ?_
    rintro e w' ⟨rfl, rfl⟩
    go_wp2_with fail
    go_ret
    exact ⟨by rw [← HR.out]; rfl, HB0.out⟩
  cases b2
  · go_enter Try.func186, Try.ntmps186
    go_wp2_with fail
    refine (HM.out _).mono ?_
    rintro e w' ⟨rfl, rfl⟩
    go_wp2_with fail
    refine (HN.out _).mono ?_
    rintro e w' ⟨rfl, rfl⟩
    go_wp2_with fail
    go_ret
    exact ⟨by rw [← HR.out]; rfl, HB0.out⟩
  cases b3
  · go_enter Try.func186, Try.ntmps186
    go_wp2_with fail
    refine (HM.out _).mono ?_
    rintro e w' ⟨rfl, rfl⟩
    go_wp2_with fail
    refine (HN.out _).mono ?_
    rintro e w' ⟨rfl, rfl⟩
    go_wp2_with fail
    refine (HP.out _).mono ?_
    rintro e w' ⟨rfl, rfl⟩
    go_wp2_with fail
    go_ret
    exact ⟨by rw [← HR.out]; rfl, HB0.out⟩
  go_enter Try.func186, Try.ntmps186
  go_wp2_with fail
  refine (HM.out _).mono ?_
  rintro e w' ⟨rfl, rfl⟩
  go_wp2_with fail
  refine (HN.out _).mono ?_
  rintro e w' ⟨rfl, rfl⟩
  go_wp2_with fail
  refine (HP.out _).mono ?_
  rintro e w' ⟨rfl, rfl⟩
  go_wp2_with fail
  refine (HT.out _).mono ?_
  rintro e w1 ⟨rfl, hb1⟩
  have HB1 := hid (HB0.out.trans (hb1.mono (by simp)))
  clear hb1
  go_wp2_with fail
  go_ret
  exact ⟨by rw [← HR.out]; rfl, HB1.out⟩
def kH : ByteArray := ⟨#[97]⟩
def kP : ByteArray := ⟨#[47]⟩
def kM : ByteArray := ⟨#[65]⟩
set_option maxRecDepth 100000 in
theorem asked_any (m h p : ByteArray) (r : Int) (W : World) (hm : m.size ≤ 1000000000000000) (hh : h.size ≤ 1000000000000000) (hp : p.size ≤ 1000000000000000) (hr : told m h p = r) :
    Calls Try.prog 221 #[.agg #[.string m, .string h, .string p, .slice none 0 0, .string ⟨#[]⟩]] W fun e w' => e = .returned (.int .i64 r) ∧ Below W.heap.size W w' := by
  have HC := hid (fun w => mcheck_any m h p r w hm hh hp hr)
  have HB0 : Hid (Below W.heap.size W (W.alloc (.cells #[.string m, .string h, .string p, .slice none 0 0, .string ⟨#[]⟩] 67))) := by show Below _ _ _; go_grown
  clear hr
  go_enter Try.func221, Try.ntmps221
  go_wp2_with fail
  refine (HC.out _).mono ?_
  rintro e w1 ⟨rfl, hb1⟩
  have HB1 := hid (HB0.out.trans (hb1.mono (by simp)))
  clear hb1
  go_wp2_with fail
  go_ret
  exact ⟨rfl, HB1.out⟩
set_option maxRecDepth 100000 in
theorem kmethod_any (s : ByteArray) (W : World) (hs : s.size ≤ 1000000000000000) : Calls Try.prog 220 #[.string s] W fun e w' => e = .returned (.int .i64 (if methodOk s = true then 0 else 3)) ∧ Below W.heap.size W w' := by
  have hn : Hd.nameOk kH = true := by decide
  have hp : pathOk kP = true := by decide
  have ht : told s kH kP = if methodOk s = true then 0 else 3 := by unfold told; rw [if_pos hn, if_pos hp]
  have HA := hid (fun w => asked_any s kH kP _ w hs (by decide) (by decide) ht)
  unfold kH kP at HA
  clear hn hp ht
  generalize (if methodOk s = true then (0 : Int) else 3) = r at HA
  go_enter Try.func220, Try.ntmps220
  go_wp2_with fail
  refine (HA.out _).mono ?_
  rintro e w1 ⟨rfl, hb1⟩
  have HB1 := hid hb1
  clear hb1
  go_wp2_with fail
  go_ret
  exact ⟨rfl, HB1.out⟩
set_option maxRecDepth 100000 in
theorem kpath_any (s : ByteArray) (W : World) (hs : s.size ≤ 1000000000000000) : Calls Try.prog 222 #[.string s] W fun e w' => e = .returned (.int .i64 (if pathOk s = true then 0 else 12)) ∧ Below W.heap.size W w' := by
  have hn : Hd.nameOk kH = true := by decide
  have hm : methodOk kM = true := by decide
  have ht : told kM kH s = if pathOk s = true then 0 else 12 := by unfold told; rw [if_pos hm, if_pos hn]
  have HA := hid (fun w => asked_any kM kH s _ w (by decide) (by decide) hs ht)
  unfold kH kM at HA
  clear hn hm ht
  generalize (if pathOk s = true then (0 : Int) else 12) = r at HA
  go_enter Try.func222, Try.ntmps222
  go_wp2_with fail
  refine (HA.out _).mono ?_
  rintro e w1 ⟨rfl, hb1⟩
  have HB1 := hid hb1
  clear hb1
  go_wp2_with fail
  go_ret
  exact ⟨rfl, HB1.out⟩
end C11
end Go.Proofs.Ytmmmaldpalhjeaa
namespace Go.Proofs.Ytmmmaldpalhjeaa
open Go.RowKit Go.Peri
namespace C11
def fv (n : Nat) : Value := .func (.func n) #[] #[]
set_option maxRecDepth 100000 in
theorem when_any (n : Nat) (e : Int) (W : World) : Calls Try.prog 224 #[.func (.func n) #[] #[], .int .i64 e] W fun r w' =>
    r = .returned (.func (.func 245) #[] #[.pointer (some ⟨W.heap.size, 0, none⟩), .pointer (some ⟨W.heap.size + 1, 0, none⟩)]) ∧ Below W.heap.size W w' ∧ Blk w' W.heap.size #[.func (.func n) #[] #[]] 124 ∧ Blk w' (W.heap.size + 1) #[.int .i64 e] 25 := by
  go_enter Try.func224, Try.ntmps224
  go_wp2_with fail
  go_ret
  refine ⟨by simp, by go_grown, (Blk.new W _ _).alloc _, Blk.new' _ _ _ (by simp)⟩
set_option maxRecDepth 100000 in
theorem whenName_any (s : ByteArray) (e : Int) (b : Bool) (p q : Nat) (W : World) (hs : s.size ≤ 1000000000000000) (hp : Blk W p #[.func (.func 140) #[] #[]] 124) (hq : Blk W q #[.int .i64 e] 25) (hr : Hd.nameOk s = b) :
    Calls Try.prog 245 #[.string s, .pointer (some ⟨p, 0, none⟩), .pointer (some ⟨q, 0, none⟩)] W fun r w' => r = .returned (.int .i64 (if b = true then 0 else e)) ∧ Below W.heap.size W w' := by
  have c1 : W.cell? ⟨p, 0, none⟩ = some (.func (.func 140) #[] #[]) := hp.cell 0
  have c2 : W.cell? ⟨q, 0, none⟩ = some (.int .i64 e) := hq.cell 0
  have l1 := hp.lt
  have l2 := hq.lt
  have HN := hid (fun w => C04.name_any s w hs)
  rw [hr] at HN
  clear hp hq hr
  cases b
  · go_enter Try.func245, Try.ntmps245
    go_wp2_with fail
    refine (HN.out _).mono ?_
    rintro e w' ⟨rfl, rfl⟩
    go_wp2_with fail
    go_ret
    exact ⟨rfl, by go_grown⟩
  · go_enter Try.func245, Try.ntmps245
    go_wp2_with fail
    refine (HN.out _).mono ?_
    rintro e w' ⟨rfl, rfl⟩
    go_wp2_with fail
    go_ret
    exact ⟨rfl, by go_grown⟩
set_option maxRecDepth 100000 in
theorem whenValue_any (s : ByteArray) (e : Int) (b : Bool) (p q : Nat) (W : World) (hs : s.size ≤ 1000000000000000) (hp : Blk W p #[.func (.func 229) #[] #[]] 124) (hq : Blk W q #[.int .i64 e] 25) (hr : Hd.valueOk s = b) :
    Calls Try.prog 245 #[.string s, .pointer (some ⟨p, 0, none⟩), .pointer (some ⟨q, 0, none⟩)] W fun r w' => r = .returned (.int .i64 (if b = true then 0 else e)) ∧ Below W.heap.size W w' := by
  have c1 : W.cell? ⟨p, 0, none⟩ = some (.func (.func 229) #[] #[]) := hp.cell 0
  have c2 : W.cell? ⟨q, 0, none⟩ = some (.int .i64 e) := hq.cell 0
  have l1 := hp.lt
  have l2 := hq.lt
  have HN := hid (fun w => C04.value_any s w hs)
  rw [hr] at HN
  clear hp hq hr
  cases b
  · go_enter Try.func245, Try.ntmps245
    go_wp2_with fail
    refine (HN.out _).mono ?_
    rintro e w' ⟨rfl, rfl⟩
    go_wp2_with fail
    go_ret
    exact ⟨rfl, by go_grown⟩
  · go_enter Try.func245, Try.ntmps245
    go_wp2_with fail
    refine (HN.out _).mono ?_
    rintro e w' ⟨rfl, rfl⟩
    go_wp2_with fail
    go_ret
    exact ⟨rfl, by go_grown⟩
def wh (a b : Nat) : Value := .func (.func 245) #[] #[.pointer (some ⟨a, 0, none⟩), .pointer (some ⟨b, 0, none⟩)]
def kcells (a b c d : Nat) : Array Value := #[.bool false, .bool true, .func (.func 220) #[] #[], .func (.func 223) #[] #[],
  .bool false, .bool true, .func (.func 245) #[] #[.pointer (some ⟨a, 0, none⟩), .pointer (some ⟨b, 0, none⟩)], .func (.func 225) #[] #[],
  .bool false, .bool true, .func (.func 222) #[] #[], .func (.func 226) #[] #[],
  .bool false, .bool true, .func (.func 222) #[] #[], .func (.func 227) #[] #[],
  .bool true, .bool true, .func (.func 245) #[] #[.pointer (some ⟨c, 0, none⟩), .pointer (some ⟨d, 0, none⟩)], .func (.func 230) #[] #[],
  .bool true, .bool false, .func (.func 232) #[] #[], .func (.func 233) #[] #[]]
structure KindsAt (w : World) (a b c d : Nat) : Prop where
  a : Blk w a #[.func (.func 140) #[] #[]] 124
  b : Blk w b #[.int .i64 7] 25
  c : Blk w c #[.func (.func 229) #[] #[]] 124
  d : Blk w d #[.int .i64 15] 25
def KindsQ (W : World) (e : Ending) (w' : World) : Prop :=
  ∃ a b c d g, e = .returned (.slice (some ⟨g, 0, none⟩) 6 6) ∧ Below W.heap.size W w' ∧ Hid (KindsAt w' a b c d) ∧ Hid (Blk w' g (kcells a b c d) 204)
set_option maxRecDepth 100000 in
set_option maxHeartbeats 1000000 in
theorem kinds_any (W : World) : Calls Try.prog 190 #[] W (KindsQ W) := by
  have HW := hid when_any
  go_enter Try.func190, Try.ntmps190
  go_wp2_with fail
  refine (HW.out _ _ _).mono ?_
  rintro e w1 ⟨rfl, hb1, hp1, hq1⟩
  have HB1 := hid hb1
  have HP1 := hid hp1
  have HQ1 := hid hq1
  clear hb1 hp1 hq1
  go_wp2_with fail
  refine (HW.out _ _ _).mono ?_
  rintro e w2 ⟨rfl, hb2, hp2, hq2⟩
  have HB2 := hid (HB1.out.trans (hb2.mono HB1.out.size))
  have HP2 := hid (HP1.out.later hb2)
  have HQ2 := hid (HQ1.out.later hb2)
  have HR2 := hid hp2
  have HS2 := hid hq2
  clear hb2 hp2 hq2
  go_wp2_with fail
  go_ret
  unfold KindsQ
  exact ⟨_, _, _, _, _, rfl, HB2.out.trans (by have := HB2.out.size; go_grown; all_goals omega), hid ⟨HP2.out.alloc _, HQ2.out.alloc _, HR2.out.alloc _, HS2.out.alloc _⟩, hid (Blk.new _ _ _)⟩
end C11
end Go.Proofs.Ytmmmaldpalhjeaa
namespace Go.Proofs.Ytmmmaldpalhjeaa
open Go.RowKit Go.Peri
namespace C11
@[go_sem] theorem run_store_fn {P : Program} {w : World} {a : Addr} {m : Mode} (f : Fn) (l c : Array Value) : (store a (.func f l c) m).run P w = stored P w a (.func f l c) m := run_store P w a _ m rfl
/-- A kind that there is. -/
def OfQ (k : Nat → Nat → Nat → Nat → Value) (W : World) (e : Ending) (w' : World) : Prop :=
  ∃ a b c d, e = .returned (.tuple #[k a b c d, .bool true]) ∧ Below W.heap.size W w' ∧ Hid (KindsAt w' a b c d)
def kind1 (a b c d : Nat) : Value := (fun (_ _ _ _ : Nat) => .agg #[.bool false, .bool true, .func (.func 220) #[] #[], .func (.func 223) #[] #[]]) a b c d
def kind2 (a b c d : Nat) : Value := (fun (_ _ _ _ : Nat) => .agg #[.bool false, .bool true, .func (.func 245) #[] #[.pointer (some ⟨a, 0, none⟩), .pointer (some ⟨b, 0, none⟩)], .func (.func 225) #[] #[]]) a b c d
def kind3 (a b c d : Nat) : Value := (fun (_ _ _ _ : Nat) => .agg #[.bool false, .bool true, .func (.func 222) #[] #[], .func (.func 226) #[] #[]]) a b c d
def kind4 (a b c d : Nat) : Value := (fun (_ _ _ _ : Nat) => .agg #[.bool false, .bool true, .func (.func 222) #[] #[], .func (.func 227) #[] #[]]) a b c d
def kind5 (a b c d : Nat) : Value := (fun (_ _ _ _ : Nat) => .agg #[.bool true, .bool true, .func (.func 245) #[] #[.pointer (some ⟨c, 0, none⟩), .pointer (some ⟨d, 0, none⟩)], .func (.func 230) #[] #[]]) a b c d
def kind6 (a b c d : Nat) : Value := (fun (_ _ _ _ : Nat) => .agg #[.bool true, .bool false, .func (.func 232) #[] #[], .func (.func 233) #[] #[]]) a b c d
set_option maxRecDepth 100000 in
set_option maxHeartbeats 1000000 in
theorem of1 (W : World) : Calls Try.prog 152 #[.int .i64 1] W (OfQ kind1 W) := by
  have HK := hid kinds_any
  have HZ := hid (Blk.new W #[.bool false, .bool false, .nilFunc, .nilFunc] 204)
  have HB0 : Hid (Below W.heap.size W (W.alloc (.cells #[.bool false, .bool false, .nilFunc, .nilFunc] 204))) := by show Below _ _ _; go_grown
  go_enter Try.func152, Try.ntmps152
  go_wp2_with fail
  refine (HK.out _).mono ?_
  rintro e w1 ⟨a, b, c, d, g, rfl, hb1, hka, hg'⟩
  have hg := hg'.out
  have hk : Blk w1 W.heap.size #[.bool false, .bool false, .nilFunc, .nilFunc] 204 := HZ.out.later hb1
  have HB1 := hid (HB0.out.trans (hb1.mono (by simp)))
  have hgl := hg.lt
  have hlt := hk.lt
  have na : a ≠ W.heap.size := fun e => by
    have h := hka.out.a
    rw [e] at h
    have := h.symm.trans hk
    simp at this
  have nb : b ≠ W.heap.size := fun e => by
    have h := hka.out.b
    rw [e] at h
    have := h.symm.trans hk
    simp at this
  have nc : c ≠ W.heap.size := fun e => by
    have h := hka.out.c
    rw [e] at h
    have := h.symm.trans hk
    simp at this
  have nd : d ≠ W.heap.size := fun e => by
    have h := hka.out.d
    rw [e] at h
    have := h.symm.trans hk
    simp at this
  have r0 : w1.cell? ⟨g, 0, none⟩ = some (.bool false) := hg.cell 0
  have r1 : w1.cell? ⟨g, 1, none⟩ = some (.bool true) := hg.cell 1
  have r2 : w1.cell? ⟨g, 2, none⟩ = some (.func (.func 220) #[] #[]) := hg.cell 2
  have r3 : w1.cell? ⟨g, 3, none⟩ = some (.func (.func 223) #[] #[]) := hg.cell 3
  have d0 : w1.cell? ⟨W.heap.size, 0, none⟩ = some (.bool false) := hk.cell 0
  have f0 := hk.free 0
  have d1 : w1.cell? ⟨W.heap.size, 1, none⟩ = some (.bool false) := hk.cell 1
  have f1 := hk.free 1
  have d2 : w1.cell? ⟨W.heap.size, 2, none⟩ = some (.nilFunc) := hk.cell 2
  have f2 := hk.free 2
  have d3 : w1.cell? ⟨W.heap.size, 3, none⟩ = some (.nilFunc) := hk.cell 3
  have f3 := hk.free 3
  clear hb1 hg hg' hk
  go_wp2_with fail
  refine bodyPost_ret (by simp [results, Try.results152, go_sem, d0, d1, d2, d3]; try rfl) rfl ?_
  unfold OfQ
  refine ⟨a, b, c, d, rfl, HB1.out.trans (by have := HB1.out.size; go_grown; all_goals omega), ?_⟩
  have k := hka.out
  exact hid ⟨(((k.a.other na _).other na _).other na _).other na _, (((k.b.other nb _).other nb _).other nb _).other nb _, (((k.c.other nc _).other nc _).other nc _).other nc _, (((k.d.other nd _).other nd _).other nd _).other nd _⟩
set_option maxRecDepth 100000 in
set_option maxHeartbeats 1000000 in
theorem of2 (W : World) : Calls Try.prog 152 #[.int .i64 2] W (OfQ kind2 W) := by
  have HK := hid kinds_any
  have HZ := hid (Blk.new W #[.bool false, .bool false, .nilFunc, .nilFunc] 204)
  have HB0 : Hid (Below W.heap.size W (W.alloc (.cells #[.bool false, .bool false, .nilFunc, .nilFunc] 204))) := by show Below _ _ _; go_grown
  go_enter Try.func152, Try.ntmps152
  go_wp2_with fail
  refine (HK.out _).mono ?_
  rintro e w1 ⟨a, b, c, d, g, rfl, hb1, hka, hg'⟩
  have hg := hg'.out
  have hk : Blk w1 W.heap.size #[.bool false, .bool false, .nilFunc, .nilFunc] 204 := HZ.out.later hb1
  have HB1 := hid (HB0.out.trans (hb1.mono (by simp)))
  have hgl := hg.lt
  have hlt := hk.lt
  have na : a ≠ W.heap.size := fun e => by
    have h := hka.out.a
    rw [e] at h
    have := h.symm.trans hk
    simp at this
  have nb : b ≠ W.heap.size := fun e => by
    have h := hka.out.b
    rw [e] at h
    have := h.symm.trans hk
    simp at this
  have nc : c ≠ W.heap.size := fun e => by
    have h := hka.out.c
    rw [e] at h
    have := h.symm.trans hk
    simp at this
  have nd : d ≠ W.heap.size := fun e => by
    have h := hka.out.d
    rw [e] at h
    have := h.symm.trans hk
    simp at this
  have r0 : w1.cell? ⟨g, 4, none⟩ = some (.bool false) := hg.cell 4
  have r1 : w1.cell? ⟨g, 5, none⟩ = some (.bool true) := hg.cell 5
  have r2 : w1.cell? ⟨g, 6, none⟩ = some (.func (.func 245) #[] #[.pointer (some ⟨a, 0, none⟩), .pointer (some ⟨b, 0, none⟩)]) := hg.cell 6
  have r3 : w1.cell? ⟨g, 7, none⟩ = some (.func (.func 225) #[] #[]) := hg.cell 7
  have d0 : w1.cell? ⟨W.heap.size, 0, none⟩ = some (.bool false) := hk.cell 0
  have f0 := hk.free 0
  have d1 : w1.cell? ⟨W.heap.size, 1, none⟩ = some (.bool false) := hk.cell 1
  have f1 := hk.free 1
  have d2 : w1.cell? ⟨W.heap.size, 2, none⟩ = some (.nilFunc) := hk.cell 2
  have f2 := hk.free 2
  have d3 : w1.cell? ⟨W.heap.size, 3, none⟩ = some (.nilFunc) := hk.cell 3
  have f3 := hk.free 3
  clear hb1 hg hg' hk
  go_wp2_with fail
  refine bodyPost_ret (by simp [results, Try.results152, go_sem, d0, d1, d2, d3]; try rfl) rfl ?_
  unfold OfQ
  refine ⟨a, b, c, d, rfl, HB1.out.trans (by have := HB1.out.size; go_grown; all_goals omega), ?_⟩
  have k := hka.out
  exact hid ⟨(((k.a.other na _).other na _).other na _).other na _, (((k.b.other nb _).other nb _).other nb _).other nb _, (((k.c.other nc _).other nc _).other nc _).other nc _, (((k.d.other nd _).other nd _).other nd _).other nd _⟩
set_option maxRecDepth 100000 in
set_option maxHeartbeats 1000000 in
theorem of3 (W : World) : Calls Try.prog 152 #[.int .i64 3] W (OfQ kind3 W) := by
  have HK := hid kinds_any
  have HZ := hid (Blk.new W #[.bool false, .bool false, .nilFunc, .nilFunc] 204)
  have HB0 : Hid (Below W.heap.size W (W.alloc (.cells #[.bool false, .bool false, .nilFunc, .nilFunc] 204))) := by show Below _ _ _; go_grown
  go_enter Try.func152, Try.ntmps152
  go_wp2_with fail
  refine (HK.out _).mono ?_
  rintro e w1 ⟨a, b, c, d, g, rfl, hb1, hka, hg'⟩
  have hg := hg'.out
  have hk : Blk w1 W.heap.size #[.bool false, .bool false, .nilFunc, .nilFunc] 204 := HZ.out.later hb1
  have HB1 := hid (HB0.out.trans (hb1.mono (by simp)))
  have hgl := hg.lt
  have hlt := hk.lt
  have na : a ≠ W.heap.size := fun e => by
    have h := hka.out.a
    rw [e] at h
    have := h.symm.trans hk
    simp at this
  have nb : b ≠ W.heap.size := fun e => by
    have h := hka.out.b
    rw [e] at h
    have := h.symm.trans hk
    simp at this
  have nc : c ≠ W.heap.size := fun e => by
    have h := hka.out.c
    rw [e] at h
    have := h.symm.trans hk
    simp at this
  have nd : d ≠ W.heap.size := fun e => by
    have h := hka.out.d
    rw [e] at h
    have := h.symm.trans hk
    simp at this
  have r0 : w1.cell? ⟨g, 8, none⟩ = some (.bool false) := hg.cell 8
  have r1 : w1.cell? ⟨g, 9, none⟩ = some (.bool true) := hg.cell 9
  have r2 : w1.cell? ⟨g, 10, none⟩ = some (.func (.func 222) #[] #[]) := hg.cell 10
  have r3 : w1.cell? ⟨g, 11, none⟩ = some (.func (.func 226) #[] #[]) := hg.cell 11
  have d0 : w1.cell? ⟨W.heap.size, 0, none⟩ = some (.bool false) := hk.cell 0
  have f0 := hk.free 0
  have d1 : w1.cell? ⟨W.heap.size, 1, none⟩ = some (.bool false) := hk.cell 1
  have f1 := hk.free 1
  have d2 : w1.cell? ⟨W.heap.size, 2, none⟩ = some (.nilFunc) := hk.cell 2
  have f2 := hk.free 2
  have d3 : w1.cell? ⟨W.heap.size, 3, none⟩ = some (.nilFunc) := hk.cell 3
  have f3 := hk.free 3
  clear hb1 hg hg' hk
  go_wp2_with fail
  refine bodyPost_ret (by simp [results, Try.results152, go_sem, d0, d1, d2, d3]; try rfl) rfl ?_
  unfold OfQ
  refine ⟨a, b, c, d, rfl, HB1.out.trans (by have := HB1.out.size; go_grown; all_goals omega), ?_⟩
  have k := hka.out
  exact hid ⟨(((k.a.other na _).other na _).other na _).other na _, (((k.b.other nb _).other nb _).other nb _).other nb _, (((k.c.other nc _).other nc _).other nc _).other nc _, (((k.d.other nd _).other nd _).other nd _).other nd _⟩
set_option maxRecDepth 100000 in
set_option maxHeartbeats 1000000 in
theorem of4 (W : World) : Calls Try.prog 152 #[.int .i64 4] W (OfQ kind4 W) := by
  have HK := hid kinds_any
  have HZ := hid (Blk.new W #[.bool false, .bool false, .nilFunc, .nilFunc] 204)
  have HB0 : Hid (Below W.heap.size W (W.alloc (.cells #[.bool false, .bool false, .nilFunc, .nilFunc] 204))) := by show Below _ _ _; go_grown
  go_enter Try.func152, Try.ntmps152
  go_wp2_with fail
  refine (HK.out _).mono ?_
  rintro e w1 ⟨a, b, c, d, g, rfl, hb1, hka, hg'⟩
  have hg := hg'.out
  have hk : Blk w1 W.heap.size #[.bool false, .bool false, .nilFunc, .nilFunc] 204 := HZ.out.later hb1
  have HB1 := hid (HB0.out.trans (hb1.mono (by simp)))
  have hgl := hg.lt
  have hlt := hk.lt
  have na : a ≠ W.heap.size := fun e => by
    have h := hka.out.a
    rw [e] at h
    have := h.symm.trans hk
    simp at this
  have nb : b ≠ W.heap.size := fun e => by
    have h := hka.out.b
    rw [e] at h
    have := h.symm.trans hk
    simp at this
  have nc : c ≠ W.heap.size := fun e => by
    have h := hka.out.c
    rw [e] at h
    have := h.symm.trans hk
    simp at this
  have nd : d ≠ W.heap.size := fun e => by
    have h := hka.out.d
    rw [e] at h
    have := h.symm.trans hk
    simp at this
  have r0 : w1.cell? ⟨g, 12, none⟩ = some (.bool false) := hg.cell 12
  have r1 : w1.cell? ⟨g, 13, none⟩ = some (.bool true) := hg.cell 13
  have r2 : w1.cell? ⟨g, 14, none⟩ = some (.func (.func 222) #[] #[]) := hg.cell 14
  have r3 : w1.cell? ⟨g, 15, none⟩ = some (.func (.func 227) #[] #[]) := hg.cell 15
  have d0 : w1.cell? ⟨W.heap.size, 0, none⟩ = some (.bool false) := hk.cell 0
  have f0 := hk.free 0
  have d1 : w1.cell? ⟨W.heap.size, 1, none⟩ = some (.bool false) := hk.cell 1
  have f1 := hk.free 1
  have d2 : w1.cell? ⟨W.heap.size, 2, none⟩ = some (.nilFunc) := hk.cell 2
  have f2 := hk.free 2
  have d3 : w1.cell? ⟨W.heap.size, 3, none⟩ = some (.nilFunc) := hk.cell 3
  have f3 := hk.free 3
  clear hb1 hg hg' hk
  go_wp2_with fail
  refine bodyPost_ret (by simp [results, Try.results152, go_sem, d0, d1, d2, d3]; try rfl) rfl ?_
  unfold OfQ
  refine ⟨a, b, c, d, rfl, HB1.out.trans (by have := HB1.out.size; go_grown; all_goals omega), ?_⟩
  have k := hka.out
  exact hid ⟨(((k.a.other na _).other na _).other na _).other na _, (((k.b.other nb _).other nb _).other nb _).other nb _, (((k.c.other nc _).other nc _).other nc _).other nc _, (((k.d.other nd _).other nd _).other nd _).other nd _⟩
set_option maxRecDepth 100000 in
set_option maxHeartbeats 1000000 in
theorem of5 (W : World) : Calls Try.prog 152 #[.int .i64 5] W (OfQ kind5 W) := by
  have HK := hid kinds_any
  have HZ := hid (Blk.new W #[.bool false, .bool false, .nilFunc, .nilFunc] 204)
  have HB0 : Hid (Below W.heap.size W (W.alloc (.cells #[.bool false, .bool false, .nilFunc, .nilFunc] 204))) := by show Below _ _ _; go_grown
  go_enter Try.func152, Try.ntmps152
  go_wp2_with fail
  refine (HK.out _).mono ?_
  rintro e w1 ⟨a, b, c, d, g, rfl, hb1, hka, hg'⟩
  have hg := hg'.out
  have hk : Blk w1 W.heap.size #[.bool false, .bool false, .nilFunc, .nilFunc] 204 := HZ.out.later hb1
  have HB1 := hid (HB0.out.trans (hb1.mono (by simp)))
  have hgl := hg.lt
  have hlt := hk.lt
  have na : a ≠ W.heap.size := fun e => by
    have h := hka.out.a
    rw [e] at h
    have := h.symm.trans hk
    simp at this
  have nb : b ≠ W.heap.size := fun e => by
    have h := hka.out.b
    rw [e] at h
    have := h.symm.trans hk
    simp at this
  have nc : c ≠ W.heap.size := fun e => by
    have h := hka.out.c
    rw [e] at h
    have := h.symm.trans hk
    simp at this
  have nd : d ≠ W.heap.size := fun e => by
    have h := hka.out.d
    rw [e] at h
    have := h.symm.trans hk
    simp at this
  have r0 : w1.cell? ⟨g, 16, none⟩ = some (.bool true) := hg.cell 16
  have r1 : w1.cell? ⟨g, 17, none⟩ = some (.bool true) := hg.cell 17
  have r2 : w1.cell? ⟨g, 18, none⟩ = some (.func (.func 245) #[] #[.pointer (some ⟨c, 0, none⟩), .pointer (some ⟨d, 0, none⟩)]) := hg.cell 18
  have r3 : w1.cell? ⟨g, 19, none⟩ = some (.func (.func 230) #[] #[]) := hg.cell 19
  have d0 : w1.cell? ⟨W.heap.size, 0, none⟩ = some (.bool false) := hk.cell 0
  have f0 := hk.free 0
  have d1 : w1.cell? ⟨W.heap.size, 1, none⟩ = some (.bool false) := hk.cell 1
  have f1 := hk.free 1
  have d2 : w1.cell? ⟨W.heap.size, 2, none⟩ = some (.nilFunc) := hk.cell 2
  have f2 := hk.free 2
  have d3 : w1.cell? ⟨W.heap.size, 3, none⟩ = some (.nilFunc) := hk.cell 3
  have f3 := hk.free 3
  clear hb1 hg hg' hk
  go_wp2_with fail
  refine bodyPost_ret (by simp [results, Try.results152, go_sem, d0, d1, d2, d3]; try rfl) rfl ?_
  unfold OfQ
  refine ⟨a, b, c, d, rfl, HB1.out.trans (by have := HB1.out.size; go_grown; all_goals omega), ?_⟩
  have k := hka.out
  exact hid ⟨(((k.a.other na _).other na _).other na _).other na _, (((k.b.other nb _).other nb _).other nb _).other nb _, (((k.c.other nc _).other nc _).other nc _).other nc _, (((k.d.other nd _).other nd _).other nd _).other nd _⟩
set_option maxRecDepth 100000 in
set_option maxHeartbeats 1000000 in
theorem of6 (W : World) : Calls Try.prog 152 #[.int .i64 6] W (OfQ kind6 W) := by
  have HK := hid kinds_any
  have HZ := hid (Blk.new W #[.bool false, .bool false, .nilFunc, .nilFunc] 204)
  have HB0 : Hid (Below W.heap.size W (W.alloc (.cells #[.bool false, .bool false, .nilFunc, .nilFunc] 204))) := by show Below _ _ _; go_grown
  go_enter Try.func152, Try.ntmps152
  go_wp2_with fail
  refine (HK.out _).mono ?_
  rintro e w1 ⟨a, b, c, d, g, rfl, hb1, hka, hg'⟩
  have hg := hg'.out
  have hk : Blk w1 W.heap.size #[.bool false, .bool false, .nilFunc, .nilFunc] 204 := HZ.out.later hb1
  have HB1 := hid (HB0.out.trans (hb1.mono (by simp)))
  have hgl := hg.lt
  have hlt := hk.lt
  have na : a ≠ W.heap.size := fun e => by
    have h := hka.out.a
    rw [e] at h
    have := h.symm.trans hk
    simp at this
  have nb : b ≠ W.heap.size := fun e => by
    have h := hka.out.b
    rw [e] at h
    have := h.symm.trans hk
    simp at this
  have nc : c ≠ W.heap.size := fun e => by
    have h := hka.out.c
    rw [e] at h
    have := h.symm.trans hk
    simp at this
  have nd : d ≠ W.heap.size := fun e => by
    have h := hka.out.d
    rw [e] at h
    have := h.symm.trans hk
    simp at this
  have r0 : w1.cell? ⟨g, 20, none⟩ = some (.bool true) := hg.cell 20
  have r1 : w1.cell? ⟨g, 21, none⟩ = some (.bool false) := hg.cell 21
  have r2 : w1.cell? ⟨g, 22, none⟩ = some (.func (.func 232) #[] #[]) := hg.cell 22
  have r3 : w1.cell? ⟨g, 23, none⟩ = some (.func (.func 233) #[] #[]) := hg.cell 23
  have d0 : w1.cell? ⟨W.heap.size, 0, none⟩ = some (.bool false) := hk.cell 0
  have f0 := hk.free 0
  have d1 : w1.cell? ⟨W.heap.size, 1, none⟩ = some (.bool false) := hk.cell 1
  have f1 := hk.free 1
  have d2 : w1.cell? ⟨W.heap.size, 2, none⟩ = some (.nilFunc) := hk.cell 2
  have f2 := hk.free 2
  have d3 : w1.cell? ⟨W.heap.size, 3, none⟩ = some (.nilFunc) := hk.cell 3
  have f3 := hk.free 3
  clear hb1 hg hg' hk
  go_wp2_with fail
  refine bodyPost_ret (by simp [results, Try.results152, go_sem, d0, d1, d2, d3]; try rfl) rfl ?_
  unfold OfQ
  refine ⟨a, b, c, d, rfl, HB1.out.trans (by have := HB1.out.size; go_grown; all_goals omega), ?_⟩
  have k := hka.out
  exact hid ⟨(((k.a.other na _).other na _).other na _).other na _, (((k.b.other nb _).other nb _).other nb _).other nb _, (((k.c.other nc _).other nc _).other nc _).other nc _, (((k.d.other nd _).other nd _).other nd _).other nd _⟩
end C11
end Go.Proofs.Ytmmmaldpalhjeaa
namespace Go.Proofs.Ytmmmaldpalhjeaa
open Go.RowKit Go.Peri
namespace C11
@[go_sem] theorem run_store_nilFn {P : Program} {w : World} {a : Addr} {m : Mode} : (store a .nilFunc m).run P w = stored P w a .nilFunc m := run_store P w a _ m rfl
set_option maxRecDepth 100000 in
theorem of_low (n : Int) (W : World) (h : n < 1) : Calls Try.prog 152 #[.int .i64 n] W fun e w' => e = .returned (.tuple #[.agg #[.bool false, .bool false, .nilFunc, .nilFunc], .bool false]) ∧ Below W.heap.size W w' := by
  go_enter Try.func152, Try.ntmps152
  go_wp2_with fail
  refine bodyPost_ret (by simp [results, Try.results152, go_sem]; try rfl) rfl ?_
  exact ⟨rfl, by go_grown⟩
set_option maxRecDepth 100000 in
theorem of_high (n : Int) (W : World) (h : 6 < n) : Calls Try.prog 152 #[.int .i64 n] W fun e w' => e = .returned (.tuple #[.agg #[.bool false, .bool false, .nilFunc, .nilFunc], .bool false]) ∧ Below W.heap.size W w' := by
  have h1 : ¬ n < 1 := by omega
  go_enter Try.func152, Try.ntmps152
  go_wp2_with fail
  refine bodyPost_ret (by simp [results, Try.results152, go_sem]; try rfl) rfl ?_
  exact ⟨rfl, by go_grown⟩
end C11
end Go.Proofs.Ytmmmaldpalhjeaa
namespace Go.Proofs.Ytmmmaldpalhjeaa
open Go.RowKit Go.Peri
namespace C11
/-- A text that is not empty: as the walk asks it. -/
structure Full (s : ByteArray) : Prop where
  t1 : s.toList.isEmpty = false
  t2 : (!s.toList.isEmpty) = true
  t3 : ¬ s.toList = []
theorem full_of (s : ByteArray) (h0 : s.size ≠ 0) : Full s := by
  have t1 : s.toList.isEmpty = false := by
    rw [Bool.eq_false_iff]; intro h
    apply h0
    rw [List.isEmpty_iff, ByteArray.toList_eq] at h
    have := congrArg List.length h
    simpa using this
  exact ⟨t1, by rw [t1]; rfl, by rw [← List.isEmpty_iff, t1]; simp⟩
theorem none_of (s : ByteArray) (h0 : s.size = 0) : s = ByteArray.empty := ByteArray.ext (Array.eq_empty_of_size_eq_zero h0)
set_option maxRecDepth 100000 in
set_option maxHeartbeats 1000000 in
theorem pcheck1 (n v : ByteArray) (r : Int) (W : World) (hv : v.size ≤ 1000000000000000) (hr : (if n.size ≠ 0 then 2 else if methodOk v = true then 0 else 3) = r) :
    Calls Try.prog 98 #[.agg #[.int .i64 1, .string n, .string v]] W fun e w' => e = .returned (.int .i64 r) ∧ Below W.heap.size W w' := by
  have HO : Hid (∀ w, Calls Try.prog 152 #[.int .i64 1] w fun e w' => ∃ a b c d : Nat, e = .returned (.tuple #[.agg #[.bool false, .bool true, .func (.func 220) #[] #[], .func (.func 223) #[] #[]], .bool true]) ∧ Below w.heap.size w w' ∧ Hid (KindsAt w' a b c d)) := hid (fun w => of1 w)
  have HC := hid (fun w => kmethod_any v w hv)
  have HZ := hid (Blk.new W #[.int .i64 1, .string n, .string v] 146)
  have HB0 : Hid (Below W.heap.size W (W.alloc (.cells #[.int .i64 1, .string n, .string v] 146))) := by show Below _ _ _; go_grown
  by_cases h0 : n.size ≠ 0
  · rw [if_pos h0] at hr
    have hf := full_of n h0
    have t1 := hf.t1
    have t2 := hf.t2
    have t3 := hf.t3
    have HR := hid hr
    clear hf hr h0
    go_enter Try.func98, Try.ntmps98
    go_wp2_with fail
    refine (HO.out _).mono ?_
    rintro e w1 ⟨a, b, c, d, rfl, hb1, hka⟩
    have hk := HZ.out.later hb1
    have d0 : w1.cell? ⟨W.heap.size, 0, none⟩ = some (.int .i64 1) := hk.cell 0
    have d1 : w1.cell? ⟨W.heap.size, 1, none⟩ = some (.string n) := hk.cell 1
    have d2 : w1.cell? ⟨W.heap.size, 2, none⟩ = some (.string v) := hk.cell 2
    have hlt := hk.lt
    have HB1 := hid (HB0.out.trans (hb1.mono (by simp)))
    have HN1 : Hid (Below W.heap.size W (w1.alloc (.cells #[.bool false, .bool true, .func (.func 220) #[] #[], .func (.func 223) #[] #[]] 204))) := hid (HB1.out.trans (by have := HB1.out.size; go_grown; all_goals omega))
    clear hb1 hk hka
    go_wp2_with fail
    go_ret
    exact ⟨by rw [← HR.out]; rfl, HN1.out⟩
  · rw [if_neg h0] at hr
    obtain rfl := none_of n (by omega)
    rw [hr] at HC
    clear hr h0
    go_enter Try.func98, Try.ntmps98
    go_wp2_with fail
    refine (HO.out _).mono ?_
    rintro e w1 ⟨a, b, c, d, rfl, hb1, hka⟩
    have hk := HZ.out.later hb1
    have d0 : w1.cell? ⟨W.heap.size, 0, none⟩ = some (.int .i64 1) := hk.cell 0
    have d1 : w1.cell? ⟨W.heap.size, 1, none⟩ = some (.string ByteArray.empty) := hk.cell 1
    have d2 : w1.cell? ⟨W.heap.size, 2, none⟩ = some (.string v) := hk.cell 2
    have hlt := hk.lt
    have HB1 := hid (HB0.out.trans (hb1.mono (by simp)))
    have HN1 : Hid (Below W.heap.size W (w1.alloc (.cells #[.bool false, .bool true, .func (.func 220) #[] #[], .func (.func 223) #[] #[]] 204))) := hid (HB1.out.trans (by have := HB1.out.size; go_grown; all_goals omega))
    clear hb1 hk hka
    go_wp2_with fail
    refine (HC.out _).mono ?_
    rintro e w2 ⟨rfl, hb2⟩
    have HB2 := hid (HN1.out.trans (hb2.mono HN1.out.size))
    clear hb2
    go_wp2_with fail
    go_ret
    exact ⟨rfl, HB2.out⟩
set_option maxRecDepth 100000 in
set_option maxHeartbeats 1000000 in
theorem pcheck3 (n v : ByteArray) (r : Int) (W : World) (hv : v.size ≤ 1000000000000000) (hr : (if n.size ≠ 0 then 2 else if pathOk v = true then 0 else 12) = r) :
    Calls Try.prog 98 #[.agg #[.int .i64 3, .string n, .string v]] W fun e w' => e = .returned (.int .i64 r) ∧ Below W.heap.size W w' := by
  have HO : Hid (∀ w, Calls Try.prog 152 #[.int .i64 3] w fun e w' => ∃ a b c d : Nat, e = .returned (.tuple #[.agg #[.bool false, .bool true, .func (.func 222) #[] #[], .func (.func 226) #[] #[]], .bool true]) ∧ Below w.heap.size w w' ∧ Hid (KindsAt w' a b c d)) := hid (fun w => of3 w)
  have HC := hid (fun w => kpath_any v w hv)
  have HZ := hid (Blk.new W #[.int .i64 3, .string n, .string v] 146)
  have HB0 : Hid (Below W.heap.size W (W.alloc (.cells #[.int .i64 3, .string n, .string v] 146))) := by show Below _ _ _; go_grown
  by_cases h0 : n.size ≠ 0
  · rw [if_pos h0] at hr
    have hf := full_of n h0
    have t1 := hf.t1
    have t2 := hf.t2
    have t3 := hf.t3
    have HR := hid hr
    clear hf hr h0
    go_enter Try.func98, Try.ntmps98
    go_wp2_with fail
    refine (HO.out _).mono ?_
    rintro e w1 ⟨a, b, c, d, rfl, hb1, hka⟩
    have hk := HZ.out.later hb1
    have d0 : w1.cell? ⟨W.heap.size, 0, none⟩ = some (.int .i64 3) := hk.cell 0
    have d1 : w1.cell? ⟨W.heap.size, 1, none⟩ = some (.string n) := hk.cell 1
    have d2 : w1.cell? ⟨W.heap.size, 2, none⟩ = some (.string v) := hk.cell 2
    have hlt := hk.lt
    have HB1 := hid (HB0.out.trans (hb1.mono (by simp)))
    have HN1 : Hid (Below W.heap.size W (w1.alloc (.cells #[.bool false, .bool true, .func (.func 222) #[] #[], .func (.func 226) #[] #[]] 204))) := hid (HB1.out.trans (by have := HB1.out.size; go_grown; all_goals omega))
    clear hb1 hk hka
    go_wp2_with fail
    go_ret
    exact ⟨by rw [← HR.out]; rfl, HN1.out⟩
  · rw [if_neg h0] at hr
    obtain rfl := none_of n (by omega)
    rw [hr] at HC
    clear hr h0
    go_enter Try.func98, Try.ntmps98
    go_wp2_with fail
    refine (HO.out _).mono ?_
    rintro e w1 ⟨a, b, c, d, rfl, hb1, hka⟩
    have hk := HZ.out.later hb1
    have d0 : w1.cell? ⟨W.heap.size, 0, none⟩ = some (.int .i64 3) := hk.cell 0
    have d1 : w1.cell? ⟨W.heap.size, 1, none⟩ = some (.string ByteArray.empty) := hk.cell 1
    have d2 : w1.cell? ⟨W.heap.size, 2, none⟩ = some (.string v) := hk.cell 2
    have hlt := hk.lt
    have HB1 := hid (HB0.out.trans (hb1.mono (by simp)))
    have HN1 : Hid (Below W.heap.size W (w1.alloc (.cells #[.bool false, .bool true, .func (.func 222) #[] #[], .func (.func 226) #[] #[]] 204))) := hid (HB1.out.trans (by have := HB1.out.size; go_grown; all_goals omega))
    clear hb1 hk hka
    go_wp2_with fail
    refine (HC.out _).mono ?_
    rintro e w2 ⟨rfl, hb2⟩
    have HB2 := hid (HN1.out.trans (hb2.mono HN1.out.size))
    clear hb2
    go_wp2_with fail
    go_ret
    exact ⟨rfl, HB2.out⟩
set_option maxRecDepth 100000 in
set_option maxHeartbeats 1000000 in
theorem pcheck4 (n v : ByteArray) (r : Int) (W : World) (hv : v.size ≤ 1000000000000000) (hr : (if n.size ≠ 0 then 2 else if pathOk v = true then 0 else 12) = r) :
    Calls Try.prog 98 #[.agg #[.int .i64 4, .string n, .string v]] W fun e w' => e = .returned (.int .i64 r) ∧ Below W.heap.size W w' := by
  have HO : Hid (∀ w, Calls Try.prog 152 #[.int .i64 4] w fun e w' => ∃ a b c d : Nat, e = .returned (.tuple #[.agg #[.bool false, .bool true, .func (.func 222) #[] #[], .func (.func 227) #[] #[]], .bool true]) ∧ Below w.heap.size w w' ∧ Hid (KindsAt w' a b c d)) := hid (fun w => of4 w)
  have HC := hid (fun w => kpath_any v w hv)
  have HZ := hid (Blk.new W #[.int .i64 4, .string n, .string v] 146)
  have HB0 : Hid (Below W.heap.size W (W.alloc (.cells #[.int .i64 4, .string n, .string v] 146))) := by show Below _ _ _; go_grown
  by_cases h0 : n.size ≠ 0
  · rw [if_pos h0] at hr
    have hf := full_of n h0
    have t1 := hf.t1
    have t2 := hf.t2
    have t3 := hf.t3
    have HR := hid hr
    clear hf hr h0
    go_enter Try.func98, Try.ntmps98
    go_wp2_with fail
    refine (HO.out _).mono ?_
    rintro e w1 ⟨a, b, c, d, rfl, hb1, hka⟩
    have hk := HZ.out.later hb1
    have d0 : w1.cell? ⟨W.heap.size, 0, none⟩ = some (.int .i64 4) := hk.cell 0
    have d1 : w1.cell? ⟨W.heap.size, 1, none⟩ = some (.string n) := hk.cell 1
    have d2 : w1.cell? ⟨W.heap.size, 2, none⟩ = some (.string v) := hk.cell 2
    have hlt := hk.lt
    have HB1 := hid (HB0.out.trans (hb1.mono (by simp)))
    have HN1 : Hid (Below W.heap.size W (w1.alloc (.cells #[.bool false, .bool true, .func (.func 222) #[] #[], .func (.func 227) #[] #[]] 204))) := hid (HB1.out.trans (by have := HB1.out.size; go_grown; all_goals omega))
    clear hb1 hk hka
    go_wp2_with fail
    go_ret
    exact ⟨by rw [← HR.out]; rfl, HN1.out⟩
  · rw [if_neg h0] at hr
    obtain rfl := none_of n (by omega)
    rw [hr] at HC
    clear hr h0
    go_enter Try.func98, Try.ntmps98
    go_wp2_with fail
    refine (HO.out _).mono ?_
    rintro e w1 ⟨a, b, c, d, rfl, hb1, hka⟩
    have hk := HZ.out.later hb1
    have d0 : w1.cell? ⟨W.heap.size, 0, none⟩ = some (.int .i64 4) := hk.cell 0
    have d1 : w1.cell? ⟨W.heap.size, 1, none⟩ = some (.string ByteArray.empty) := hk.cell 1
    have d2 : w1.cell? ⟨W.heap.size, 2, none⟩ = some (.string v) := hk.cell 2
    have hlt := hk.lt
    have HB1 := hid (HB0.out.trans (hb1.mono (by simp)))
    have HN1 : Hid (Below W.heap.size W (w1.alloc (.cells #[.bool false, .bool true, .func (.func 222) #[] #[], .func (.func 227) #[] #[]] 204))) := hid (HB1.out.trans (by have := HB1.out.size; go_grown; all_goals omega))
    clear hb1 hk hka
    go_wp2_with fail
    refine (HC.out _).mono ?_
    rintro e w2 ⟨rfl, hb2⟩
    have HB2 := hid (HN1.out.trans (hb2.mono HN1.out.size))
    clear hb2
    go_wp2_with fail
    go_ret
    exact ⟨rfl, HB2.out⟩
end C11
end Go.Proofs.Ytmmmaldpalhjeaa
namespace Go.Proofs.Ytmmmaldpalhjeaa
open Go.RowKit Go.Peri
namespace C11
set_option maxRecDepth 100000 in
theorem khas_any (s : ByteArray) (W : World) : Calls Try.prog 232 #[.string s] W fun e w' => e = .returned (.int .i64 0) ∧ W = w' := by
  go_enter Try.func232, Try.ntmps232
  go_wp2_with fail
  go_ret
  exact ⟨rfl, rfl⟩
set_option maxRecDepth 100000 in
set_option maxHeartbeats 1000000 in
theorem pcheck2 (n v : ByteArray) (r : Int) (W : World) (hv : v.size ≤ 1000000000000000) (hr : (if n.size ≠ 0 then 2 else if Hd.nameOk v = true then 0 else 7) = r) :
    Calls Try.prog 98 #[.agg #[.int .i64 2, .string n, .string v]] W fun e w' => e = .returned (.int .i64 r) ∧ Below W.heap.size W w' := by
  have HO : Hid (∀ w, Calls Try.prog 152 #[.int .i64 2] w fun e w' => ∃ a b c d : Nat, e = .returned (.tuple #[.agg #[.bool false, .bool true, .func (.func 245) #[] #[.pointer (some ⟨a, 0, none⟩), .pointer (some ⟨b, 0, none⟩)], .func (.func 225) #[] #[]], .bool true]) ∧ Below w.heap.size w w' ∧ Hid (KindsAt w' a b c d)) := hid (fun w => of2 w)
  have HZ := hid (Blk.new W #[.int .i64 2, .string n, .string v] 146)
  have HB0 : Hid (Below W.heap.size W (W.alloc (.cells #[.int .i64 2, .string n, .string v] 146))) := by show Below _ _ _; go_grown
  by_cases h0 : n.size ≠ 0
  · rw [if_pos h0] at hr
    have hf := full_of n h0
    have t1 := hf.t1
    have t2 := hf.t2
    have t3 := hf.t3
    subst hr
    clear hf h0
    go_enter Try.func98, Try.ntmps98
    go_wp2_with fail
    refine (HO.out _).mono ?_
    rintro e w1 ⟨a, b, c, d, rfl, hb1, hka⟩
    have hk := HZ.out.later hb1
    have d0 : w1.cell? ⟨W.heap.size, 0, none⟩ = some (.int .i64 2) := hk.cell 0
    have d1 : w1.cell? ⟨W.heap.size, 1, none⟩ = some (.string n) := hk.cell 1
    have d2 : w1.cell? ⟨W.heap.size, 2, none⟩ = some (.string v) := hk.cell 2
    have hlt := hk.lt
    have HB1 := hid (HB0.out.trans (hb1.mono (by simp)))
    have HN1 : Hid (Below W.heap.size W (w1.alloc (.cells #[.bool false, .bool true, .func (.func 245) #[] #[.pointer (some ⟨a, 0, none⟩), .pointer (some ⟨b, 0, none⟩)], .func (.func 225) #[] #[]] 204))) := hid (HB1.out.trans (by have := HB1.out.size; go_grown; all_goals omega))
    clear hb1 hk hka
    go_wp2_with fail
    go_ret
    exact ⟨rfl, HN1.out⟩
  · rw [if_neg h0] at hr
    obtain rfl := none_of n (by omega)
    obtain ⟨q, hq⟩ : ∃ q, Hd.nameOk v = q := ⟨_, rfl⟩
    rw [hq] at hr
    have HC := hid (fun a b w ha hb => whenName_any v 7 q a b w hv ha hb hq)
    clear hq h0
    rw [hr] at HC
    clear hr
    go_enter Try.func98, Try.ntmps98
    go_wp2_with fail
    refine (HO.out _).mono ?_
    rintro e w1 ⟨a, b, c, d, rfl, hb1, hka⟩
    have hk := HZ.out.later hb1
    have d0 : w1.cell? ⟨W.heap.size, 0, none⟩ = some (.int .i64 2) := hk.cell 0
    have d1 : w1.cell? ⟨W.heap.size, 1, none⟩ = some (.string ByteArray.empty) := hk.cell 1
    have d2 : w1.cell? ⟨W.heap.size, 2, none⟩ = some (.string v) := hk.cell 2
    have hlt := hk.lt
    have HB1 := hid (HB0.out.trans (hb1.mono (by simp)))
    have HN1 : Hid (Below W.heap.size W (w1.alloc (.cells #[.bool false, .bool true, .func (.func 245) #[] #[.pointer (some ⟨a, 0, none⟩), .pointer (some ⟨b, 0, none⟩)], .func (.func 225) #[] #[]] 204))) := hid (HB1.out.trans (by have := HB1.out.size; go_grown; all_goals omega))
    clear hb1 hk
    go_wp2_with fail
    refine (HC.out _ _ _ (hka.out.a.alloc _) (hka.out.b.alloc _)).mono ?_
    rintro e w2 ⟨rfl, hb2⟩
    have HB2 := hid (HN1.out.trans (hb2.mono HN1.out.size))
    clear hb2
    go_wp2_with fail
    go_ret
    exact ⟨rfl, HB2.out⟩
set_option maxRecDepth 100000 in
set_option maxHeartbeats 1000000 in
theorem pcheck5 (n v : ByteArray) (r : Int) (W : World) (hn : n.size ≤ 1000000000000000) (hv : v.size ≤ 1000000000000000) (hr : (if Hd.nameOk n = true then (if Hd.valueOk v = true then 0 else 15) else 7) = r) :
    Calls Try.prog 98 #[.agg #[.int .i64 5, .string n, .string v]] W fun e w' => e = .returned (.int .i64 r) ∧ Below W.heap.size W w' := by
  have HO : Hid (∀ w, Calls Try.prog 152 #[.int .i64 5] w fun e w' => ∃ a b c d : Nat, e = .returned (.tuple #[.agg #[.bool true, .bool true, .func (.func 245) #[] #[.pointer (some ⟨c, 0, none⟩), .pointer (some ⟨d, 0, none⟩)], .func (.func 230) #[] #[]], .bool true]) ∧ Below w.heap.size w w' ∧ Hid (KindsAt w' a b c d)) := hid (fun w => of5 w)
  have HZ := hid (Blk.new W #[.int .i64 5, .string n, .string v] 146)
  have HB0 : Hid (Below W.heap.size W (W.alloc (.cells #[.int .i64 5, .string n, .string v] 146))) := by show Below _ _ _; go_grown
  obtain ⟨q, hq⟩ : ∃ q, Hd.nameOk n = q := ⟨_, rfl⟩
  obtain ⟨u, hu⟩ : ∃ u, Hd.valueOk v = u := ⟨_, rfl⟩
  have HN := hid (fun w => C04.name_any n w hn)
  have HC := hid (fun a b w ha hb => whenValue_any v 15 u a b w hv ha hb hu)
  rw [hq] at HN
  rw [hq, hu] at hr
  clear hq hu
  cases q
  · rw [if_neg (by simp)] at hr
    subst hr
    go_enter Try.func98, Try.ntmps98
    go_wp2_with fail
    refine (HO.out _).mono ?_
    rintro e w1 ⟨a, b, c, d, rfl, hb1, hka⟩
    have hk := HZ.out.later hb1
    have d0 : w1.cell? ⟨W.heap.size, 0, none⟩ = some (.int .i64 5) := hk.cell 0
    have d1 : w1.cell? ⟨W.heap.size, 1, none⟩ = some (.string n) := hk.cell 1
    have d2 : w1.cell? ⟨W.heap.size, 2, none⟩ = some (.string v) := hk.cell 2
    have hlt := hk.lt
    have HB1 := hid (HB0.out.trans (hb1.mono (by simp)))
    have HN1 : Hid (Below W.heap.size W (w1.alloc (.cells #[.bool true, .bool true, .func (.func 245) #[] #[.pointer (some ⟨c, 0, none⟩), .pointer (some ⟨d, 0, none⟩)], .func (.func 230) #[] #[]] 204))) := hid (HB1.out.trans (by have := HB1.out.size; go_grown; all_goals omega))
    clear hb1 hk hka
    go_wp2_with fail
    refine (HN.out _).mono ?_
    rintro e w' ⟨rfl, rfl⟩
    go_wp2_with fail
    go_ret
    exact ⟨rfl, HN1.out⟩
  · rw [if_pos rfl] at hr
    rw [hr] at HC
    clear hr
    go_enter Try.func98, Try.ntmps98
    go_wp2_with fail
    refine (HO.out _).mono ?_
    rintro e w1 ⟨a, b, c, d, rfl, hb1, hka⟩
    have hk := HZ.out.later hb1
    have d0 : w1.cell? ⟨W.heap.size, 0, none⟩ = some (.int .i64 5) := hk.cell 0
    have d1 : w1.cell? ⟨W.heap.size, 1, none⟩ = some (.string n) := hk.cell 1
    have d2 : w1.cell? ⟨W.heap.size, 2, none⟩ = some (.string v) := hk.cell 2
    have hlt := hk.lt
    have HB1 := hid (HB0.out.trans (hb1.mono (by simp)))
    have HN1 : Hid (Below W.heap.size W (w1.alloc (.cells #[.bool true, .bool true, .func (.func 245) #[] #[.pointer (some ⟨c, 0, none⟩), .pointer (some ⟨d, 0, none⟩)], .func (.func 230) #[] #[]] 204))) := hid (HB1.out.trans (by have := HB1.out.size; go_grown; all_goals omega))
    clear hb1 hk
    go_wp2_with fail
    refine (HN.out _).mono ?_
    rintro e w' ⟨rfl, rfl⟩
    go_wp2_with fail
    refine (HC.out _ _ _ (hka.out.c.alloc _) (hka.out.d.alloc _)).mono ?_
    rintro e w2 ⟨rfl, hb2⟩
    have HB2 := hid (HN1.out.trans (hb2.mono HN1.out.size))
    clear hb2
    go_wp2_with fail
    go_ret
    exact ⟨rfl, HB2.out⟩
set_option maxRecDepth 100000 in
set_option maxHeartbeats 1000000 in
theorem pcheck6 (n v : ByteArray) (r : Int) (W : World) (hn : n.size ≤ 1000000000000000) (hr : (if v.size ≠ 0 then 2 else if Hd.nameOk n = true then 0 else 7) = r) :
    Calls Try.prog 98 #[.agg #[.int .i64 6, .string n, .string v]] W fun e w' => e = .returned (.int .i64 r) ∧ Below W.heap.size W w' := by
  have HO : Hid (∀ w, Calls Try.prog 152 #[.int .i64 6] w fun e w' => ∃ a b c d : Nat, e = .returned (.tuple #[.agg #[.bool true, .bool false, .func (.func 232) #[] #[], .func (.func 233) #[] #[]], .bool true]) ∧ Below w.heap.size w w' ∧ Hid (KindsAt w' a b c d)) := hid (fun w => of6 w)
  have HZ := hid (Blk.new W #[.int .i64 6, .string n, .string v] 146)
  have HB0 : Hid (Below W.heap.size W (W.alloc (.cells #[.int .i64 6, .string n, .string v] 146))) := by show Below _ _ _; go_grown
  by_cases h0 : v.size ≠ 0
  · rw [if_pos h0] at hr
    have hf := full_of v h0
    have t1 := hf.t1
    have t2 := hf.t2
    have t3 := hf.t3
    subst hr
    clear hf h0
    go_enter Try.func98, Try.ntmps98
    go_wp2_with fail
    refine (HO.out _).mono ?_
    rintro e w1 ⟨a, b, c, d, rfl, hb1, hka⟩
    have hk := HZ.out.later hb1
    have d0 : w1.cell? ⟨W.heap.size, 0, none⟩ = some (.int .i64 6) := hk.cell 0
    have d1 : w1.cell? ⟨W.heap.size, 1, none⟩ = some (.string n) := hk.cell 1
    have d2 : w1.cell? ⟨W.heap.size, 2, none⟩ = some (.string v) := hk.cell 2
    have hlt := hk.lt
    have HB1 := hid (HB0.out.trans (hb1.mono (by simp)))
    have HN1 : Hid (Below W.heap.size W (w1.alloc (.cells #[.bool true, .bool false, .func (.func 232) #[] #[], .func (.func 233) #[] #[]] 204))) := hid (HB1.out.trans (by have := HB1.out.size; go_grown; all_goals omega))
    clear hb1 hk hka
    go_wp2_with fail
    go_ret
    exact ⟨rfl, HN1.out⟩
  · rw [if_neg h0] at hr
    obtain rfl := none_of v (by omega)
    obtain ⟨q, hq⟩ : ∃ q, Hd.nameOk n = q := ⟨_, rfl⟩
    have HN := hid (fun w => C04.name_any n w hn)
    have HC := hid (fun w => khas_any ByteArray.empty w)
    rw [hq] at hr HN
    clear hq h0
    cases q
    · rw [if_neg (by simp)] at hr
      subst hr
      go_enter Try.func98, Try.ntmps98
      go_wp2_with fail
      refine (HO.out _).mono ?_
      rintro e w1 ⟨a, b, c, d, rfl, hb1, hka⟩
      have hk := HZ.out.later hb1
      have d0 : w1.cell? ⟨W.heap.size, 0, none⟩ = some (.int .i64 6) := hk.cell 0
      have d1 : w1.cell? ⟨W.heap.size, 1, none⟩ = some (.string n) := hk.cell 1
      have d2 : w1.cell? ⟨W.heap.size, 2, none⟩ = some (.string ByteArray.empty) := hk.cell 2
      have hlt := hk.lt
      have HB1 := hid (HB0.out.trans (hb1.mono (by simp)))
      have HN1 : Hid (Below W.heap.size W (w1.alloc (.cells #[.bool true, .bool false, .func (.func 232) #[] #[], .func (.func 233) #[] #[]] 204))) := hid (HB1.out.trans (by have := HB1.out.size; go_grown; all_goals omega))
      clear hb1 hk hka
      go_wp2_with fail
      refine (HN.out _).mono ?_
      rintro e w' ⟨rfl, rfl⟩
      go_wp2_with fail
      go_ret
      exact ⟨rfl, HN1.out⟩
    · rw [if_pos rfl] at hr
      subst hr
      go_enter Try.func98, Try.ntmps98
      go_wp2_with fail
      refine (HO.out _).mono ?_
      rintro e w1 ⟨a, b, c, d, rfl, hb1, hka⟩
      have hk := HZ.out.later hb1
      have d0 : w1.cell? ⟨W.heap.size, 0, none⟩ = some (.int .i64 6) := hk.cell 0
      have d1 : w1.cell? ⟨W.heap.size, 1, none⟩ = some (.string n) := hk.cell 1
      have d2 : w1.cell? ⟨W.heap.size, 2, none⟩ = some (.string ByteArray.empty) := hk.cell 2
      have hlt := hk.lt
      have HB1 := hid (HB0.out.trans (hb1.mono (by simp)))
      have HN1 : Hid (Below W.heap.size W (w1.alloc (.cells #[.bool true, .bool false, .func (.func 232) #[] #[], .func (.func 233) #[] #[]] 204))) := hid (HB1.out.trans (by have := HB1.out.size; go_grown; all_goals omega))
      clear hb1 hk hka
      go_wp2_with fail
      refine (HN.out _).mono ?_
      rintro e w' ⟨rfl, rfl⟩
      go_wp2_with fail
      refine (HC.out _).mono ?_
      rintro e w' ⟨rfl, rfl⟩
      go_wp2_with fail
      go_ret
      exact ⟨rfl, HN1.out⟩
end C11
end Go.Proofs.Ytmmmaldpalhjeaa
namespace Go.Proofs.Ytmmmaldpalhjeaa
open Go.RowKit Go.Peri
namespace C11
set_option maxRecDepth 100000 in
theorem pcheck0 (k : Int) (n v : ByteArray) (W : World) (h : k < 1 ∨ 6 < k) :
    Calls Try.prog 98 #[.agg #[.int .i64 k, .string n, .string v]] W fun e w' => e = .returned (.int .i64 2) ∧ Below W.heap.size W w' := by
  have HO : Hid (∀ w, Calls Try.prog 152 #[.int .i64 k] w fun e w' => e = .returned (.tuple #[.agg #[.bool false, .bool false, .nilFunc, .nilFunc], .bool false]) ∧ Below w.heap.size w w') := hid (fun w => h.elim (fun h => of_low k w h) (fun h => of_high k w h))
  have HB0 : Hid (Below W.heap.size W (W.alloc (.cells #[.int .i64 k, .string n, .string v] 146))) := by show Below _ _ _; go_grown
  clear h
  go_enter Try.func98, Try.ntmps98
  go_wp2_with fail
  refine (HO.out _).mono ?_
  rintro e w1 ⟨rfl, hb1⟩
  have HB1 := hid (HB0.out.trans (hb1.mono (by simp)))
  have HN1 : Hid (Below W.heap.size W (w1.alloc (.cells #[.bool false, .bool false, .nilFunc, .nilFunc] 204))) := hid (HB1.out.trans (by have := HB1.out.size; go_grown; all_goals omega))
  clear hb1
  go_wp2_with fail
  go_ret
  exact ⟨rfl, HN1.out⟩
set_option maxRecDepth 100000 in
theorem mMethod (k : Int) (n v m h p b : ByteArray) (hd : Value) (r : Bool) (W : World) (a : Option Addr) (l c : Nat) (ha : hd = .slice a l c) (hr : decide (m = v) = r) :
    Calls Try.prog 223 #[.agg #[.int .i64 k, .string n, .string v], .agg #[.string m, .string h, .string p, hd, .string b]] W fun e w' => e = .returned (.bool r) ∧ Below W.heap.size W w' := by
  subst ha
  have k1 := (strEq_of hr).eq
  have k2 := (strEq_of hr).ne
  clear hr
  go_enter Try.func223, Try.ntmps223
  go_wp2_with fail
  go_ret
  exact ⟨rfl, by go_grown⟩
end C11
end Go.Proofs.Ytmmmaldpalhjeaa
namespace Go.Proofs.Ytmmmaldpalhjeaa
open Go.RowKit Go.Peri
namespace C11
set_option maxRecDepth 100000 in
set_option maxHeartbeats 1000000 in
theorem rcheck1 (n v : ByteArray) (r : Int) (W : World) (hv : v.size ≤ 1000000000000000) (hr : (if n.size ≠ 0 then 2 else if methodOk v = true then 0 else 3) = r) :
    Calls Try.prog 103 #[.agg #[.int .i64 1, .string n, .string v]] W fun e w' => e = .returned (.int .i64 r) ∧ Below W.heap.size W w' := by
  by_cases h0 : n.size ≠ 0
  · rw [if_pos h0] at hr
    have hf := full_of n h0
    have t1 := hf.t1
    have t2 := hf.t2
    have t3 := hf.t3
    subst hr
    clear hf h0
    go_enter Try.func103, Try.ntmps103
    go_wp2_with fail
    go_ret
    exact ⟨rfl, by go_grown⟩
  · rw [if_neg h0] at hr
    obtain rfl := none_of n (by omega)
    obtain ⟨q, hq⟩ : ∃ q, methodOk v = q := ⟨_, rfl⟩
    have HC := hid (fun w => rmethod_any v q w hv hq)
    rw [hq] at hr
    clear hq h0
    cases q
    · rw [if_neg (by simp)] at hr
      subst hr
      go_enter Try.func103, Try.ntmps103
      go_wp2_with fail
      refine (HC.out _).mono ?_
      rintro e w' ⟨rfl, rfl⟩
      go_wp2_with fail
      go_ret
      exact ⟨rfl, by go_grown⟩
    · rw [if_pos rfl] at hr
      subst hr
      go_enter Try.func103, Try.ntmps103
      go_wp2_with fail
      refine (HC.out _).mono ?_
      rintro e w' ⟨rfl, rfl⟩
      go_wp2_with fail
      go_ret
      exact ⟨rfl, by go_grown⟩
set_option maxRecDepth 100000 in
set_option maxHeartbeats 1000000 in
theorem rcheck2 (n v : ByteArray) (r : Int) (W : World) (hv : v.size ≤ 1000000000000000) (hr : (if n.size ≠ 0 then 2 else if Hd.nameOk v = true then 0 else 7) = r) :
    Calls Try.prog 103 #[.agg #[.int .i64 2, .string n, .string v]] W fun e w' => e = .returned (.int .i64 r) ∧ Below W.heap.size W w' := by
  by_cases h0 : n.size ≠ 0
  · rw [if_pos h0] at hr
    have hf := full_of n h0
    have t1 := hf.t1
    have t2 := hf.t2
    have t3 := hf.t3
    subst hr
    clear hf h0
    go_enter Try.func103, Try.ntmps103
    go_wp2_with fail
    go_ret
    exact ⟨rfl, by go_grown⟩
  · rw [if_neg h0] at hr
    obtain rfl := none_of n (by omega)
    obtain ⟨q, hq⟩ : ∃ q, Hd.nameOk v = q := ⟨_, rfl⟩
    have HC := hid (fun w => C04.rname_any v w hv)
    rw [hq] at hr HC
    clear hq h0
    cases q
    · rw [if_neg (by simp)] at hr
      subst hr
      go_enter Try.func103, Try.ntmps103
      go_wp2_with fail
      refine (HC.out _).mono ?_
      rintro e w' ⟨rfl, rfl⟩
      go_wp2_with fail
      go_ret
      exact ⟨rfl, by go_grown⟩
    · rw [if_pos rfl] at hr
      subst hr
      go_enter Try.func103, Try.ntmps103
      go_wp2_with fail
      refine (HC.out _).mono ?_
      rintro e w' ⟨rfl, rfl⟩
      go_wp2_with fail
      go_ret
      exact ⟨rfl, by go_grown⟩
set_option maxRecDepth 100000 in
set_option maxHeartbeats 1000000 in
theorem rcheck3 (n v : ByteArray) (r : Int) (W : World) (hv : v.size ≤ 1000000000000000) (hr : (if n.size ≠ 0 then 2 else if pathOk v = true then 0 else 12) = r) :
    Calls Try.prog 103 #[.agg #[.int .i64 3, .string n, .string v]] W fun e w' => e = .returned (.int .i64 r) ∧ Below W.heap.size W w' := by
  by_cases h0 : n.size ≠ 0
  · rw [if_pos h0] at hr
    have hf := full_of n h0
    have t1 := hf.t1
    have t2 := hf.t2
    have t3 := hf.t3
    subst hr
    clear hf h0
    go_enter Try.func103, Try.ntmps103
    go_wp2_with fail
    go_ret
    exact ⟨rfl, by go_grown⟩
  · rw [if_neg h0] at hr
    obtain rfl := none_of n (by omega)
    obtain ⟨q, hq⟩ : ∃ q, pathOk v = q := ⟨_, rfl⟩
    have HC := hid (fun w => rpath_any v q w hv hq)
    rw [hq] at hr
    clear hq h0
    cases q
    · rw [if_neg (by simp)] at hr
      subst hr
      go_enter Try.func103, Try.ntmps103
      go_wp2_with fail
      refine (HC.out _).mono ?_
      rintro e w' ⟨rfl, rfl⟩
      go_wp2_with fail
      go_ret
      exact ⟨rfl, by go_grown⟩
    · rw [if_pos rfl] at hr
      subst hr
      go_enter Try.func103, Try.ntmps103
      go_wp2_with fail
      refine (HC.out _).mono ?_
      rintro e w' ⟨rfl, rfl⟩
      go_wp2_with fail
      go_ret
      exact ⟨rfl, by go_grown⟩
set_option maxRecDepth 100000 in
set_option maxHeartbeats 1000000 in
theorem rcheck4 (n v : ByteArray) (r : Int) (W : World) (hv : v.size ≤ 1000000000000000) (hr : (if n.size ≠ 0 then 2 else if pathOk v = true then 0 else 12) = r) :
    Calls Try.prog 103 #[.agg #[.int .i64 4, .string n, .string v]] W fun e w' => e = .returned (.int .i64 r) ∧ Below W.heap.size W w' := by
  by_cases h0 : n.size ≠ 0
  · rw [if_pos h0] at hr
    have hf := full_of n h0
    have t1 := hf.t1
    have t2 := hf.t2
    have t3 := hf.t3
    subst hr
    clear hf h0
    go_enter Try.func103, Try.ntmps103
    go_wp2_with fail
    go_ret
    exact ⟨rfl, by go_grown⟩
  · rw [if_neg h0] at hr
    obtain rfl := none_of n (by omega)
    obtain ⟨q, hq⟩ : ∃ q, pathOk v = q := ⟨_, rfl⟩
    have HC := hid (fun w => rpath_any v q w hv hq)
    rw [hq] at hr
    clear hq h0
    cases q
    · rw [if_neg (by simp)] at hr
      subst hr
      go_enter Try.func103, Try.ntmps103
      go_wp2_with fail
      refine (HC.out _).mono ?_
      rintro e w' ⟨rfl, rfl⟩
      go_wp2_with fail
      go_ret
      exact ⟨rfl, by go_grown⟩
    · rw [if_pos rfl] at hr
      subst hr
      go_enter Try.func103, Try.ntmps103
      go_wp2_with fail
      refine (HC.out _).mono ?_
      rintro e w' ⟨rfl, rfl⟩
      go_wp2_with fail
      go_ret
      exact ⟨rfl, by go_grown⟩
set_option maxRecDepth 100000 in
set_option maxHeartbeats 1000000 in
theorem rcheck5 (n v : ByteArray) (r : Int) (W : World) (hn : n.size ≤ 1000000000000000) (hv : v.size ≤ 1000000000000000) (hr : (if Hd.nameOk n = true then (if Hd.valueOk v = true then 0 else 15) else 7) = r) :
    Calls Try.prog 103 #[.agg #[.int .i64 5, .string n, .string v]] W fun e w' => e = .returned (.int .i64 r) ∧ Below W.heap.size W w' := by
  obtain ⟨q, hq⟩ : ∃ q, Hd.nameOk n = q := ⟨_, rfl⟩
  obtain ⟨u, hu⟩ : ∃ u, Hd.valueOk v = u := ⟨_, rfl⟩
  have HN := hid (fun w => C04.rname_any n w hn)
  have HC := hid (fun w => C04.rvalue_any v w hv)
  rw [hq] at HN
  rw [hu] at HC
  rw [hq, hu] at hr
  clear hq hu
  cases q
  · rw [if_neg (by simp)] at hr
    subst hr
    go_enter Try.func103, Try.ntmps103
    go_wp2_with fail
    refine (HN.out _).mono ?_
    rintro e w' ⟨rfl, rfl⟩
    go_wp2_with fail
    go_ret
    exact ⟨rfl, by go_grown⟩
  rw [if_pos rfl] at hr
  cases u
  · rw [if_neg (by simp)] at hr
    subst hr
    go_enter Try.func103, Try.ntmps103
    go_wp2_with fail
    refine (HN.out _).mono ?_
    rintro e w' ⟨rfl, rfl⟩
    go_wp2_with fail
    refine (HC.out _).mono ?_
    rintro e w' ⟨rfl, rfl⟩
    go_wp2_with fail
    go_ret
    exact ⟨rfl, by go_grown⟩
  · rw [if_pos rfl] at hr
    subst hr
    go_enter Try.func103, Try.ntmps103
    go_wp2_with fail
    refine (HN.out _).mono ?_
    rintro e w' ⟨rfl, rfl⟩
    go_wp2_with fail
    refine (HC.out _).mono ?_
    rintro e w' ⟨rfl, rfl⟩
    go_wp2_with fail
    go_ret
    exact ⟨rfl, by go_grown⟩
set_option maxRecDepth 100000 in
set_option maxHeartbeats 1000000 in
theorem rcheck6 (n v : ByteArray) (r : Int) (W : World) (hn : n.size ≤ 1000000000000000) (hr : (if v.size ≠ 0 then 2 else if Hd.nameOk n = true then 0 else 7) = r) :
    Calls Try.prog 103 #[.agg #[.int .i64 6, .string n, .string v]] W fun e w' => e = .returned (.int .i64 r) ∧ Below W.heap.size W w' := by
  by_cases h0 : v.size ≠ 0
  · rw [if_pos h0] at hr
    have hf := full_of v h0
    have t1 := hf.t1
    have t2 := hf.t2
    have t3 := hf.t3
    subst hr
    clear hf h0
    go_enter Try.func103, Try.ntmps103
    go_wp2_with fail
    go_ret
    exact ⟨rfl, by go_grown⟩
  · rw [if_neg h0] at hr
    obtain rfl := none_of v (by omega)
    obtain ⟨q, hq⟩ : ∃ q, Hd.nameOk n = q := ⟨_, rfl⟩
    have HC := hid (fun w => C04.rname_any n w hn)
    rw [hq] at hr HC
    clear hq h0
    cases q
    · rw [if_neg (by simp)] at hr
      subst hr
      go_enter Try.func103, Try.ntmps103
      go_wp2_with fail
      refine (HC.out _).mono ?_
      rintro e w' ⟨rfl, rfl⟩
      go_wp2_with fail
      go_ret
      exact ⟨rfl, by go_grown⟩
    · rw [if_pos rfl] at hr
      subst hr
      go_enter Try.func103, Try.ntmps103
      go_wp2_with fail
      refine (HC.out _).mono ?_
      rintro e w' ⟨rfl, rfl⟩
      go_wp2_with fail
      go_ret
      exact ⟨rfl, by go_grown⟩
end C11
end Go.Proofs.Ytmmmaldpalhjeaa
namespace Go.Proofs.Ytmmmaldpalhjeaa
open Go.RowKit Go.Peri
namespace C11
set_option maxRecDepth 100000 in
theorem rcheck0 (k : Int) (n v : ByteArray) (W : World) (h : k < 1 ∨ 6 < k) :
    Calls Try.prog 103 #[.agg #[.int .i64 k, .string n, .string v]] W fun e w' => e = .returned (.int .i64 2) ∧ Below W.heap.size W w' := by
  by_cases h1 : k < 1
  · clear h
    go_enter Try.func103, Try.ntmps103
    go_wp2_with fail
    go_ret
    exact ⟨rfl, by go_grown⟩
  · have h2 : 6 < k := by omega
    clear h
    go_enter Try.func103, Try.ntmps103
    go_wp2_with fail
    go_ret
    exact ⟨rfl, by go_grown⟩
end C11
end Go.Proofs.Ytmmmaldpalhjeaa
