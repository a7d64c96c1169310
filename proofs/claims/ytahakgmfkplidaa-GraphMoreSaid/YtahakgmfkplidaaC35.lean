/- Walks of layer 34 (prog): shapes, what fits; no condition. -/
import Derived.Test.YtahakgmfkplidaaE11
import Derived.Test.YtahakgmfkplidaaGq
namespace Go.Proofs.Ytahakgmfkplidaa
open Go.RowKit Go.Peri
namespace C35
open C11 (pathOk)
/-- The shape of a kind. -/
def shW (k : Int) : ByteArray := if k = 1 then ⟨#[115, 97, 121]⟩ else if k = 2 then ⟨#[103, 101, 116]⟩ else if k = 3 then ⟨#[112, 117, 116]⟩ else if k = 4 then ⟨#[104, 101, 97, 100]⟩ else if k = 5 then ⟨#[98, 111, 100, 121]⟩ else if k = 6 then ⟨#[99, 97, 108, 108]⟩ else if k = 7 then ⟨#[115, 116, 97, 116, 117, 115]⟩ else ByteArray.empty
def shA (k : Int) : Int := if k = 1 then 1 else if k = 2 ∨ k = 3 ∨ k = 4 ∨ k = 6 then 2 else 0
def shB (k : Int) : Int := if k = 3 then 1 else if k = 6 then 3 else 0
def shN (k : Int) : Int := if k = 7 then 4 else 0
def shV (k : Int) : Value := .agg #[.string (shW k), .int .i64 (shA k), .int .i64 (shB k), .int .i64 (shN k)]
def shOk (k : Int) : Bool := decide (1 ≤ k ∧ k ≤ 7)
def allSh : Array Value := #[.string ⟨#[115, 97, 121]⟩, .int .i64 1, .int .i64 0, .int .i64 0, .string ⟨#[103, 101, 116]⟩, .int .i64 2, .int .i64 0, .int .i64 0, .string ⟨#[112, 117, 116]⟩, .int .i64 2, .int .i64 1, .int .i64 0, .string ⟨#[104, 101, 97, 100]⟩, .int .i64 2, .int .i64 0, .int .i64 0, .string ⟨#[98, 111, 100, 121]⟩, .int .i64 0, .int .i64 0, .int .i64 0, .string ⟨#[99, 97, 108, 108]⟩, .int .i64 2, .int .i64 3, .int .i64 0, .string ⟨#[115, 116, 97, 116, 117, 115]⟩, .int .i64 0, .int .i64 0, .int .i64 4]
/-- A name of a trace's headers. -/
def tracedB (s : ByteArray) : Bool := (s.toList == [116, 114, 97, 99, 101, 112, 97, 114, 101, 110, 116]) || (s.toList == [116, 114, 97, 99, 101, 115, 116, 97, 116, 101])
set_option maxRecDepth 100000 in
theorem traced_any (s : ByteArray) (W : World) : Calls Try.prog 53 #[.string s] W fun e w' => e = .returned (.bool (tracedB s)) ∧ W = w' := by
  unfold tracedB
  by_cases g1 : s.toList = [116, 114, 97, 99, 101, 112, 97, 114, 101, 110, 116]
  · have e1 : (s.toList == [116, 114, 97, 99, 101, 112, 97, 114, 101, 110, 116]) = true := by rw [g1]; rfl
    rw [e1, Bool.true_or]
    go_enter Try.func53, Try.ntmps53
    go_wp2_with fail
    go_ret
    exact ⟨rfl, rfl⟩
  · have e1 : (s.toList == [116, 114, 97, 99, 101, 112, 97, 114, 101, 110, 116]) = false := by rw [beq_eq_false_iff_ne]; exact g1
    rw [e1, Bool.false_or]
    obtain ⟨q, hq⟩ : ∃ q, (s.toList == [116, 114, 97, 99, 101, 115, 116, 97, 116, 101]) = q := ⟨_, rfl⟩
    rw [hq]
    go_enter Try.func53, Try.ntmps53
    go_wp2_with fail
    go_ret
    exact ⟨rfl, rfl⟩
/-- Why a text is not what it should be. -/
def fitE (s : ByteArray) (t : Int) : Int := if t = 2 ∧ Hd.nameOk s = false then 7 else if t = 1 ∧ Hd.valueOk s = false then 15 else if t = 3 ∧ pathOk s = false then 12 else 0
set_option maxRecDepth 100000 in
set_option maxHeartbeats 2000000 in
theorem fits_any (s : ByteArray) (t : Int) (r : Int) (W : World) (hs : s.size ≤ 1000000000000000) (hr : fitE s t = r) : Calls Try.prog 52 #[.string s, .int .i64 t] W fun e w' => e = .returned (.int .i64 r) ∧ Below W.heap.size W w' := by
  have HR := hid hr
  clear hr
  have HN := hid (C04.name_any s W hs)
  have HV := hid (C04.value_any s W hs)
  obtain ⟨q3, h3⟩ : ∃ q, pathOk s = q := ⟨_, rfl⟩
  obtain ⟨q1, h1⟩ : ∃ q, Hd.nameOk s = q := ⟨_, rfl⟩
  obtain ⟨q2, h2⟩ : ∃ q, Hd.valueOk s = q := ⟨_, rfl⟩
  have HP := hid (C11.mcheck_any ⟨#[65]⟩ ⟨#[97]⟩ s (if pathOk s = true then 0 else 12) W (by decide) (by decide) hs (by unfold C11.told; rw [if_pos (by decide), if_pos (by decide)]))
  unfold fitE at HR
  rw [h1, h2, h3] at HR
  rw [h1] at HN
  rw [h2] at HV
  rw [h3] at HP
  clear h1 h2 h3
  by_cases t2 : t = 2
  · subst t2
    cases q1
    · go_enter Try.func52, Try.ntmps52
      go_wp2_with fail
      refine HN.out.mono ?_
      rintro e w1 ⟨rfl, rfl⟩
      go_wp2_with fail
      go_ret
      exact ⟨by rw [← HR.out]; rfl, Below.refl _ _⟩
    · go_enter Try.func52, Try.ntmps52
      go_wp2_with fail
      refine HN.out.mono ?_
      rintro e w1 ⟨rfl, rfl⟩
      go_wp2_with fail
      go_ret
      exact ⟨by rw [← HR.out]; rfl, Below.refl _ _⟩
  by_cases t1 : t = 1
  · subst t1
    cases q2
    · go_enter Try.func52, Try.ntmps52
      go_wp2_with fail
      refine HV.out.mono ?_
      rintro e w1 ⟨rfl, rfl⟩
      go_wp2_with fail
      go_ret
      exact ⟨by rw [← HR.out]; rfl, Below.refl _ _⟩
    · go_enter Try.func52, Try.ntmps52
      go_wp2_with fail
      refine HV.out.mono ?_
      rintro e w1 ⟨rfl, rfl⟩
      go_wp2_with fail
      go_ret
      exact ⟨by rw [← HR.out]; rfl, Below.refl _ _⟩
  by_cases t3 : t = 3
  · subst t3
    cases q3
    · rw [if_neg (by decide)] at HP
      go_enter Try.func52, Try.ntmps52
      go_wp2_with fail
      refine HP.out.mono ?_
      rintro e w1 ⟨rfl, hb⟩
      have HB := hid hb
      clear hb
      go_wp2_with fail
      go_ret
      exact ⟨by rw [← HR.out]; rfl, HB.out⟩
    · rw [if_pos rfl] at HP
      go_enter Try.func52, Try.ntmps52
      go_wp2_with fail
      refine HP.out.mono ?_
      rintro e w1 ⟨rfl, hb⟩
      have HB := hid hb
      clear hb
      go_wp2_with fail
      go_ret
      exact ⟨by rw [← HR.out]; rfl, HB.out⟩
  have hz : Hid (r = 0) := hid (by rw [← HR.out, if_neg (fun h => t2 h.1), if_neg (fun h => t1 h.1), if_neg (fun h => t3 h.1)])
  have u1 : (t == 1) = false := by simpa using t1
  have u2 : (t == 2) = false := by simpa using t2
  have u3 : (t == 3) = false := by simpa using t3
  go_enter Try.func52, Try.ntmps52
  go_wp2_with fail
  go_ret
  exact ⟨by rw [hz.out]; rfl, Below.refl _ _⟩
end C35
end Go.Proofs.Ytahakgmfkplidaa
