/- Walks of layer 11 (pred): no kind is checked; how a request is matched by method, host, path, beginning; no condition. -/
import Derived.Test.YthmopkaecbebpaaJ11
namespace Go.Proofs.Ythmopkaecbebpaa
open Go.RowKit Go.Peri
namespace C11
set_option maxRecDepth 100000 in
theorem mMethod (k : Int) (n v m h p b : ByteArray) (hd : Value) (r : Bool) (W : World) (a : Option Addr) (l c : Nat) (ha : hd = .slice a l c) (hr : decide (m = v) = r) :
    Calls Try.prog 176 #[.agg #[.int .i64 k, .string n, .string v], .agg #[.string m, .string h, .string p, hd, .string b]] W fun e w' => e = .returned (.bool r) ∧ Below W.heap.size W w' := by
  subst ha
  have k1 := (strEq_of hr).eq
  have k2 := (strEq_of hr).ne
  clear hr
  go_enter Try.func176, Try.ntmps176
  go_wp2_with fail
  go_ret
  exact ⟨rfl, by go_grown⟩
end C11
end Go.Proofs.Ythmopkaecbebpaa
