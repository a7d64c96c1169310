/- Walks of layer 15 (chance) for layer 16; no condition. -/
import Derived.Test.YtpamnknfccmgcaaT11
import Derived.Test.YtpamnknfccmgcaaX11
import Derived.Test.YtpamnknfccmgcaaRl
namespace Go.Proofs.Ytpamnknfccmgcaa
open Go.RowKit Go.Peri
namespace C16
theorem tmod_parts (n : Int) : -100 < n.tmod 100 ∧ n.tmod 100 < 100 ∧ n = 100 * n.tdiv 100 + n.tmod 100 := by
  refine ⟨?_, ?_, ?_⟩
  · have := Int.lt_tmod_of_pos n (show (0:Int) < 100 by decide); omega
  · exact Int.tmod_lt_of_pos n (by decide)
  · exact (Int.mul_tdiv_add_tmod n 100).symm
theorem left_any (n : Int) (w : World) : Calls Try.prog 205 #[.int .i64 n] w fun e w' => e = .returned (.int .i64 (n % 100)) ∧ w = w' := by
  obtain ⟨h1, h2, h3⟩ := tmod_parts n
  have H := hid h3; clear h3
  go_enter Try.func205, Try.ntmps205
  go_wp2
  go_ret
  have h3 := H.out
  exact ⟨ret_int (by omega), rfl⟩
theorem rleft_any (n : Int) (w : World) : Calls Try.prog 204 #[.int .i64 n] w fun e w' => e = .returned (.int .i64 (n % 100)) ∧ w = w' := by
  obtain ⟨h1, h2, h3⟩ := tmod_parts n
  have H := hid h3; clear h3
  by_cases h : n.tmod 100 < 0
  all_goals
    go_enter Try.func204, Try.ntmps204
    go_wp2
    go_ret
    have h3 := H.out
    exact ⟨ret_int (by omega), rfl⟩
def firesR (n p : Int) : Bool := decide (n % 100 < p)
theorem fires_any (n p : Int) (r : Bool) (w : World) (hr : firesR n p = r) : Calls Try.prog 167 #[.int .i64 n, .int .i64 p] w fun e w' => e = .returned (.bool r) ∧ w = w' := by
  have HR := hid hr
  clear hr
  go_enter Try.func167, Try.ntmps167
  go_wp2_with (go_at_call 205; refine (left_any _ _).mono ?_; rintro e w' ⟨rfl, rfl⟩)
  go_ret
  exact ⟨by rw [← HR.out]; rfl, rfl⟩
theorem rfires_any (n p : Int) (r : Bool) (w : World) (hr : firesR n p = r) : Calls Try.prog 166 #[.int .i64 n, .int .i64 p] w fun e w' => e = .returned (.bool r) ∧ w = w' := by
  have HR := hid hr
  clear hr
  go_enter Try.func166, Try.ntmps166
  go_wp2_with (go_at_call 204; refine (rleft_any _ _).mono ?_; rintro e w' ⟨rfl, rfl⟩)
  go_ret
  exact ⟨by rw [← HR.out]; rfl, rfl⟩
end C16
end Go.Proofs.Ytpamnknfccmgcaa
