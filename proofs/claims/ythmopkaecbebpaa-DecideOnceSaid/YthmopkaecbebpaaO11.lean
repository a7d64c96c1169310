/- Walks of layer 11 (pred): how a request is matched by host, path, beginning; no condition. -/
import Derived.Test.YthmopkaecbebpaaN11
namespace Go.Proofs.Ythmopkaecbebpaa
open Go.RowKit Go.Peri
namespace C11
set_option maxRecDepth 100000 in
theorem mHost (k : Int) (n v m h p b : ByteArray) (hd : Value) (r : Bool) (W : World) (a : Option Addr) (l c : Nat) (ha : hd = .slice a l c) (hr : decide (h = v) = r) :
    Calls Try.prog 179 #[.agg #[.int .i64 k, .string n, .string v], .agg #[.string m, .string h, .string p, hd, .string b]] W fun e w' => e = .returned (.bool r) ∧ Below W.heap.size W w' := by
  subst ha
  have k1 := (strEq_of hr).eq
  have k2 := (strEq_of hr).ne
  clear hr
  go_enter Try.func179, Try.ntmps179
  go_wp2_with fail
  go_ret
  exact ⟨rfl, by go_grown⟩
set_option maxRecDepth 100000 in
theorem mExact (k : Int) (n v m h p b : ByteArray) (hd : Value) (r : Bool) (W : World) (a : Option Addr) (l c : Nat) (ha : hd = .slice a l c) (hr : decide (p = v) = r) :
    Calls Try.prog 180 #[.agg #[.int .i64 k, .string n, .string v], .agg #[.string m, .string h, .string p, hd, .string b]] W fun e w' => e = .returned (.bool r) ∧ Below W.heap.size W w' := by
  subst ha
  have k1 := (strEq_of hr).eq
  have k2 := (strEq_of hr).ne
  clear hr
  go_enter Try.func180, Try.ntmps180
  go_wp2_with fail
  go_ret
  exact ⟨rfl, by go_grown⟩
set_option maxRecDepth 100000 in
theorem mPrefix (k : Int) (n v m h p b : ByteArray) (hd : Value) (r : Bool) (W : World) (a : Option Addr) (l c : Nat) (ha : hd = .slice a l c) (hr : prefR p v = r) :
    Calls Try.prog 181 #[.agg #[.int .i64 k, .string n, .string v], .agg #[.string m, .string h, .string p, hd, .string b]] W fun e w' => e = .returned (.bool r) ∧ Below W.heap.size W w' := by
  subst ha
  have HP := hid (fun w => hasPrefix_any p v r w hr)
  clear hr
  go_enter Try.func181, Try.ntmps181
  go_wp2_with fail
  refine (HP.out _).mono ?_
  rintro e w' ⟨rfl, rfl⟩
  go_wp2_with fail
  go_ret
  exact ⟨rfl, by go_grown⟩
end C11
end Go.Proofs.Ythmopkaecbebpaa
