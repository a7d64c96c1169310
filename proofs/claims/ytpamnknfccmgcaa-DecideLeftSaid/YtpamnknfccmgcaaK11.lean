/- Walks of layer 11 (pred): no kind is checked; how a request is matched by method, host, path, beginning; no condition. -/
import Derived.Test.YtpamnknfccmgcaaJ11
namespace Go.Proofs.Ytpamnknfccmgcaa
open Go.RowKit Go.Peri
namespace C11
set_option maxRecDepth 100000 in
theorem pcheck0 (k : Int) (n v : ByteArray) (W : World) (h : k < 1 ∨ 6 < k) :
    Calls Try.prog 57 #[.agg #[.int .i64 k, .string n, .string v]] W fun e w' => e = .returned (.int .i64 2) ∧ Below W.heap.size W w' := by
  have HO : Hid (∀ w, Calls Try.prog 143 #[.int .i64 k] w fun e w' => e = .returned (.tuple #[.agg #[.bool false, .bool false, .nilFunc, .nilFunc], .bool false]) ∧ Below w.heap.size w w') := hid (fun w => h.elim (fun h => of_low k w h) (fun h => of_high k w h))
  have HB0 : Hid (Below W.heap.size W (W.alloc (.cells #[.int .i64 k, .string n, .string v] 54))) := by show Below _ _ _; go_grown
  clear h
  go_enter Try.func57, Try.ntmps57
  go_wp2_with fail
  refine (HO.out _).mono ?_
  rintro e w1 ⟨rfl, hb1⟩
  have HB1 := hid (HB0.out.trans (hb1.mono (by simp)))
  have HN1 : Hid (Below W.heap.size W (w1.alloc (.cells #[.bool false, .bool false, .nilFunc, .nilFunc] 154))) := hid (HB1.out.trans (by have := HB1.out.size; go_grown; all_goals omega))
  clear hb1
  go_wp2_with fail
  go_ret
  exact ⟨rfl, HN1.out⟩
set_option maxRecDepth 100000 in
theorem mMethod (k : Int) (n v m h p b : ByteArray) (hd : Value) (r : Bool) (W : World) (a : Option Addr) (l c : Nat) (ha : hd = .slice a l c) (hr : decide (m = v) = r) :
    Calls Try.prog 218 #[.agg #[.int .i64 k, .string n, .string v], .agg #[.string m, .string h, .string p, hd, .string b]] W fun e w' => e = .returned (.bool r) ∧ Below W.heap.size W w' := by
  subst ha
  have k1 := (strEq_of hr).eq
  have k2 := (strEq_of hr).ne
  clear hr
  go_enter Try.func218, Try.ntmps218
  go_wp2_with fail
  go_ret
  exact ⟨rfl, by go_grown⟩
end C11
end Go.Proofs.Ytpamnknfccmgcaa
