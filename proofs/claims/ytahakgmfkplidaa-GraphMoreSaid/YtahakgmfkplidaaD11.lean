/- Walks of layer 5 and 11: beginnings of texts, methods and paths of the program; no condition. -/
import Derived.Test.YtahakgmfkplidaaC11
namespace Go.Proofs.Ytahakgmfkplidaa
open Go.RowKit Go.Peri
namespace C11
def prefR (s t : ByteArray) : Bool := decide (t.size ≤ s.size) && decide (s.extract 0 t.size = t)
set_option maxRecDepth 100000 in
theorem hp_any (s t : ByteArray) (r : Bool) (W : World) (hr : prefR s t = r) :
    Calls Try.prog 54 #[.string s, .string t] W fun e w' => e = .returned (.bool r) ∧ W = w' := by
  unfold prefR at hr
  by_cases h1 : (t.size : Int) ≤ (s.size : Int)
  · rw [decide_eq_true (show t.size ≤ s.size by omega), Bool.true_and] at hr
    have k1 := (strEq_of hr).eq
    have k2 := (strEq_of hr).ne
    clear hr
    go_enter Try.func54, Try.ntmps54
    go_wp2_with fail
    go_ret
    exact ⟨rfl, rfl⟩
  · rw [decide_eq_false (by omega), Bool.false_and] at hr
    subst hr
    go_enter Try.func54, Try.ntmps54
    go_wp2_with fail
    go_ret
    exact ⟨rfl, rfl⟩
set_option maxRecDepth 100000 in
theorem hasPrefix_any (s t : ByteArray) (r : Bool) (W : World) (hr : prefR s t = r) :
    Calls Try.prog 49 #[.string s, .string t] W fun e w' => e = .returned (.bool r) ∧ W = w' := by
  have HE := hid (fun w => hp_any s t r w hr)
  clear hr
  go_enter Try.func49, Try.ntmps49
  go_wp2_with fail
  refine (HE.out _).mono ?_
  rintro e w' ⟨rfl, rfl⟩
  go_wp2_with fail
  go_ret
  exact ⟨rfl, rfl⟩
set_option maxRecDepth 100000 in
theorem method_any (s : ByteArray) (r : Bool) (W : World) (hs : s.size ≤ 1000000000000000) (hr : methodOk s = r) :
    Calls Try.prog 43 #[.string s] W fun e w' => e = .returned (.bool r) ∧ W = w' := by
  unfold methodOk eachR at hr
  by_cases h0 : s.size = 0
  · have hem : s = ByteArray.empty := ByteArray.ext (Array.eq_empty_of_size_eq_zero h0)
    rw [decide_eq_false (by omega), Bool.false_and] at hr
    subst hr
    subst hem
    go_enter Try.func43, Try.ntmps43
    go_wp2_with fail
    go_ret
    exact ⟨rfl, rfl⟩
  have t1 : s.toList.isEmpty = false := by
    rw [Bool.eq_false_iff]; intro h
    apply h0
    rw [List.isEmpty_iff, ByteArray.toList_eq] at h
    have := congrArg List.length h
    simpa using this
  have t2 : (!s.toList.isEmpty) = true := by rw [t1]; rfl
  have t3 : ¬ s.toList = [] := by rw [← List.isEmpty_iff, t1]; simp
  rw [decide_eq_true (show 1 ≤ s.size by omega), Bool.true_and] at hr
  by_cases h8 : (s.size : Int) ≤ 8
  · rw [decide_eq_true (show s.size ≤ 8 by omega), Bool.true_and] at hr
    have HE := hid (fun w => each_any s 65 90 r w hs hr)
    clear hr
    go_enter Try.func43, Try.ntmps43
    go_wp2_with fail
    refine (HE.out _).mono ?_
    rintro e w' ⟨rfl, rfl⟩
    go_wp2_with fail
    go_ret
    exact ⟨rfl, rfl⟩
  · rw [decide_eq_false (by omega), Bool.false_and] at hr
    subst hr
    go_enter Try.func43, Try.ntmps43
    go_wp2_with fail
    go_ret
    exact ⟨rfl, rfl⟩
theorem pathOk_eq (s : ByteArray) : pathOk s = (prefR s ⟨#[47]⟩ && (decide (s.size ≤ 64) && allIn s 33 126)) := by
  unfold pathOk eachR prefR
  by_cases h : 1 ≤ s.size
  · have hl : 0 < s.data.toList.length := by rw [Array.length_toList]; exact h
    have e : decide (s.extract 0 (ByteArray.size ⟨#[47]⟩) = ⟨#[47]⟩) = decide ((s.data.toList.getD 0 0).toNat = 47) := by
      rw [decide_eq_decide, List.getD_eq_getElem?_getD, List.getElem?_eq_getElem hl]
      constructor
      · intro g
        have g2 := congrArg (fun x : ByteArray => x.data.toList) g
        simp only [ByteArray.data_extract, Array.toList_extract, List.extract_eq_take_drop, List.drop_zero] at g2
        have g3 : s.data.toList.take 1 = [47] := g2
        have : s.data.toList[0] = 47 := by
          have := congrArg (fun l : List UInt8 => l[0]?) g3
          simp only [List.getElem?_take] at this
          simpa [List.getElem?_eq_getElem hl] using this
        show (s.data.toList[0]).toNat = 47
        rw [this]; rfl
      · intro g
        have g1 : s.data.toList[0] = 47 := UInt8.toNat_inj.1 g
        apply ByteArray.ext
        apply Array.toList_inj.1
        simp only [ByteArray.data_extract, Array.toList_extract, List.extract_eq_take_drop, List.drop_zero]
        show s.data.toList.take 1 = [47]
        match hq : s.data.toList, hl, g1 with
        | a :: l, _, g1 => simp only [List.take_succ_cons, List.take_zero]; rw [show a = 47 from g1]
    have e2 : decide (ByteArray.size ⟨#[47]⟩ ≤ s.size) = true := decide_eq_true h
    rw [e, e2, decide_eq_true h, Bool.true_and, Bool.true_and, Bool.and_comm]
  · have e2 : decide (ByteArray.size ⟨#[47]⟩ ≤ s.size) = false := decide_eq_false h
    rw [e2, decide_eq_false h]; simp
set_option maxRecDepth 100000 in
theorem path_any (s : ByteArray) (r : Bool) (W : World) (hs : s.size ≤ 1000000000000000) (hr : pathOk s = r) :
    Calls Try.prog 44 #[.string s] W fun e w' => e = .returned (.bool r) ∧ W = w' := by
  rw [pathOk_eq] at hr
  obtain ⟨q, hq⟩ : ∃ q, prefR s ⟨#[47]⟩ = q := ⟨_, rfl⟩
  have HP := hid (fun w => hasPrefix_any s ⟨#[47]⟩ q w hq)
  rw [hq] at hr
  clear hq
  cases q
  · rw [Bool.false_and] at hr
    subst hr
    go_enter Try.func44, Try.ntmps44
    go_wp2_with fail
    refine (HP.out _).mono ?_
    rintro e w' ⟨rfl, rfl⟩
    go_wp2_with fail
    go_ret
    exact ⟨rfl, rfl⟩
  rw [Bool.true_and] at hr
  by_cases h8 : (s.size : Int) ≤ 64
  · rw [decide_eq_true (show s.size ≤ 64 by omega), Bool.true_and] at hr
    have HE := hid (fun w => each_any s 33 126 r w hs hr)
    clear hr
    go_enter Try.func44, Try.ntmps44
    go_wp2_with fail
    refine (HP.out _).mono ?_
    rintro e w' ⟨rfl, rfl⟩
    go_wp2_with fail
    refine (HE.out _).mono ?_
    rintro e w' ⟨rfl, rfl⟩
    go_wp2_with fail
    go_ret
    exact ⟨rfl, rfl⟩
  · rw [decide_eq_false (by omega), Bool.false_and] at hr
    subst hr
    go_enter Try.func44, Try.ntmps44
    go_wp2_with fail
    refine (HP.out _).mono ?_
    rintro e w' ⟨rfl, rfl⟩
    go_wp2_with fail
    go_ret
    exact ⟨rfl, rfl⟩
end C11
end Go.Proofs.Ytahakgmfkplidaa
