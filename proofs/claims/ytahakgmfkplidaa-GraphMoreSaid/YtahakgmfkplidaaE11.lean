/- Walks of layer 5 and 11: requests of which one thing is told; no condition. -/
import Derived.Test.YtahakgmfkplidaaD11
namespace Go.Proofs.Ytahakgmfkplidaa
open Go.RowKit Go.Peri
namespace C11
set_option maxRecDepth 100000 in
theorem tail_none (W : World) : Calls Try.prog 45 #[.slice none 0 0, .string ⟨#[]⟩] W fun e w' => e = .returned (.int .i64 0) ∧ Below W.heap.size W w' := by
  have HC : Hid (∀ w, Calls Try.prog 50 #[.slice none 0 0] w fun e w' => e = .returned (.int .i64 0) ∧ Below w.heap.size w w') := hid (fun w => C04.check_any (p := fun _ => False) _ [] w (RowsOf.nil _ _ _ _) (fun _ h => h.elim) (fun _ h => by simp at h) (by decide))
  go_enter Try.func45, Try.ntmps45
  go_wp2_with fail
  refine (HC.out _).mono ?_
  rintro e w1 ⟨rfl, hb1⟩
  have HB1 := hid hb1
  clear hb1
  go_wp2_with fail
  go_ret
  exact ⟨rfl, HB1.out⟩
/-- Why a request of these may not be. -/
def told (m h p : ByteArray) : Int := if methodOk m = true then (if Hd.nameOk h = true then (if pathOk p = true then 0 else 12) else 7) else 3
abbrev req (m h p : ByteArray) : Value := .agg #[.string m, .string h, .string p, .slice none 0 0, .string ⟨#[]⟩]
set_option maxRecDepth 100000 in
set_option maxHeartbeats 1000000 in
theorem mcheck_any (m h p : ByteArray) (r : Int) (W : World) (hm : m.size ≤ 1000000000000000) (hh : h.size ≤ 1000000000000000) (hp : p.size ≤ 1000000000000000) (hr : told m h p = r) :
    Calls Try.prog 39 #[.agg #[.string m, .string h, .string p, .slice none 0 0, .string ⟨#[]⟩]] W fun e w' => e = .returned (.int .i64 r) ∧ Below W.heap.size W w' := by
  obtain ⟨b1, q1⟩ : ∃ b, methodOk m = b := ⟨_, rfl⟩
  obtain ⟨b2, q2⟩ : ∃ b, Hd.nameOk h = b := ⟨_, rfl⟩
  obtain ⟨b3, q3⟩ : ∃ b, pathOk p = b := ⟨_, rfl⟩
  have HM := hid (fun w => method_any m b1 w hm q1)
  have HN := hid (fun w => C04.name_any h w hh)
  have HP := hid (fun w => path_any p b3 w hp q3)
  have HT := hid tail_none
  unfold told at hr
  rw [q2] at HN
  rw [q1, q2, q3] at hr
  have HR := hid hr
  have HB0 : Hid (Below W.heap.size W (W.alloc (.cells #[.string m, .string h, .string p, .slice none 0 0, .string ⟨#[]⟩] 65))) := by show Below _ _ _; go_grown
  clear q1 q2 q3 hr
  cases b1
  · go_enter Try.func39, Try.ntmps39
    go_wp2_with fail
    refine (HM.out _).mono ?_
    rintro e w' ⟨rfl, rfl⟩
    go_wp2_with fail
    go_ret
    exact ⟨by rw [← HR.out]; rfl, HB0.out⟩
  cases b2
  · go_enter Try.func39, Try.ntmps39
    go_wp2_with fail
    refine (HM.out _).mono ?_
    rintro e w' ⟨rfl, rfl⟩
    go_wp2_with fail
    refine (HN.out _).mono ?_
    rintro e w' ⟨rfl, rfl⟩
    go_wp2_with fail
    go_ret
    exact ⟨by rw [← HR.out]; rfl, HB0.out⟩
  cases b3
  · go_enter Try.func39, Try.ntmps39
    go_wp2_with fail
    refine (HM.out _).mono ?_
    rintro e w' ⟨rfl, rfl⟩
    go_wp2_with fail
    refine (HN.out _).mono ?_
    rintro e w' ⟨rfl, rfl⟩
    go_wp2_with fail
    refine (HP.out _).mono ?_
    rintro e w' ⟨rfl, rfl⟩
    go_wp2_with fail
    go_ret
    exact ⟨by rw [← HR.out]; rfl, HB0.out⟩
  go_enter Try.func39, Try.ntmps39
  go_wp2_with fail
  refine (HM.out _).mono ?_
  rintro e w' ⟨rfl, rfl⟩
  go_wp2_with fail
  refine (HN.out _).mono ?_
  rintro e w' ⟨rfl, rfl⟩
  go_wp2_with fail
  refine (HP.out _).mono ?_
  rintro e w' ⟨rfl, rfl⟩
  go_wp2_with fail
  refine (HT.out _).mono ?_
  rintro e w1 ⟨rfl, hb1⟩
  have HB1 := hid (HB0.out.trans (hb1.mono (by simp)))
  clear hb1
  go_wp2_with fail
  go_ret
  exact ⟨by rw [← HR.out]; rfl, HB1.out⟩
def kH : ByteArray := ⟨#[97]⟩
def kP : ByteArray := ⟨#[47]⟩
def kM : ByteArray := ⟨#[65]⟩
end C11
end Go.Proofs.Ytahakgmfkplidaa
