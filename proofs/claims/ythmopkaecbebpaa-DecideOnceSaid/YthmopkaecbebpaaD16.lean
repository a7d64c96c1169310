/- Walks of layer 15 (chance) for layer 16; no condition. -/
import Derived.Test.YthmopkaecbebpaaT11
import Derived.Test.YthmopkaecbebpaaX11
import Derived.Test.YthmopkaecbebpaaRl
namespace Go.Proofs.Ythmopkaecbebpaa
open Go.RowKit Go.Peri
namespace C16
theorem tmod_parts (n : Int) : -100 < n.tmod 100 ∧ n.tmod 100 < 100 ∧ n = 100 * n.tdiv 100 + n.tmod 100 := by
  refine ⟨?_, ?_, ?_⟩
  · have := Int.lt_tmod_of_pos n (show (0:Int) < 100 by decide); omega
  · exact Int.tmod_lt_of_pos n (by decide)
  · exact (Int.mul_tdiv_add_tmod n 100).symm
theorem left_any (n : Int) (w : World) : Calls Try.prog 144 #[.int .i64 n] w fun e w' => e = .returned (.int .i64 (n % 100)) ∧ w = w' := by
  obtain ⟨h1, h2, h3⟩ := tmod_parts n
  have H := hid h3; clear h3
  go_enter Try.func144, Try.ntmps144
  go_wp2
  go_ret
  have h3 := H.out
  exact ⟨ret_int (by omega), rfl⟩
def firesR (n p : Int) : Bool := decide (n % 100 < p)
theorem fires_any (n p : Int) (r : Bool) (w : World) (hr : firesR n p = r) : Calls Try.prog 133 #[.int .i64 n, .int .i64 p] w fun e w' => e = .returned (.bool r) ∧ w = w' := by
  have HR := hid hr
  clear hr
  go_enter Try.func133, Try.ntmps133
  go_wp2_with (go_at_call 144; refine (left_any _ _).mono ?_; rintro e w' ⟨rfl, rfl⟩)
  go_ret
  exact ⟨by rw [← HR.out]; rfl, rfl⟩
end C16
end Go.Proofs.Ythmopkaecbebpaa
