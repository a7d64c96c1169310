/- Walks of layer 1 (octet): the fixed calls, and the laws that compare; no condition. -/
import Derived.Test.YtpamnknfccmgcaaS01
namespace Go.Proofs.Ytpamnknfccmgcaa
open Go.RowKit Go.Peri
namespace C01

theorem hex_val (n : Nat) (w : Int) (W : World) (a : ByteArray) (b : Int) (hn : n < 18446744073709551616) (hr : hexR n w = (a, b)) :
    Calls Try.prog 136 #[.int .u64 n, .int .i64 w] W fun e w' => e = .returned (.tuple #[.string a, .int .i64 b]) ∧ Below W.heap.size W w' := by
  have := hex_any n w W hn; rw [hr] at this; exact this
theorem rhex_val (n : Nat) (w : Int) (W : World) (a : ByteArray) (b : Int) (hn : n < 18446744073709551616) (hr : hexR n w = (a, b)) :
    Calls Try.prog 140 #[.int .u64 n, .int .i64 w] W fun e w' => e = .returned (.tuple #[.string a, .int .i64 b]) ∧ W = w' := by
  have := rhex_any n w W hn; rw [hr] at this; exact this
theorem unhex_val (s : ByteArray) (W : World) (a : Nat) (b : Int) (hs : s.size ≤ 1000000000000000) (hr : unhexR s = (a, b)) :
    Calls Try.prog 130 #[.string s] W fun e w' => e = .returned (.tuple #[.int .u64 a, .int .i64 b]) ∧ W = w' := by
  have := unhex_any s W hs; rw [hr] at this; exact this
theorem runhex_val (s : ByteArray) (W : World) (a : Nat) (b : Int) (hs : s.size ≤ 1000000000000000) (hr : unhexR s = (a, b)) :
    Calls Try.prog 134 #[.string s] W fun e w' => e = .returned (.tuple #[.int .u64 a, .int .i64 b]) ∧ W = w' := by
  have := runhex_any s W hs; rw [hr] at this; exact this

end C01
end Go.Proofs.Ytpamnknfccmgcaa
