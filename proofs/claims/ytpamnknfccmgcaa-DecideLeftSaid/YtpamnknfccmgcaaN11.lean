/- Walks of layer 11 (pred): the document's check of no kind; no condition. -/
import Derived.Test.YtpamnknfccmgcaaM11
namespace Go.Proofs.Ytpamnknfccmgcaa
open Go.RowKit Go.Peri
namespace C11
set_option maxRecDepth 100000 in
theorem rcheck0 (k : Int) (n v : ByteArray) (W : World) (h : k < 1 ∨ 6 < k) :
    Calls Try.prog 58 #[.agg #[.int .i64 k, .string n, .string v]] W fun e w' => e = .returned (.int .i64 2) ∧ Below W.heap.size W w' := by
  by_cases h1 : k < 1
  · clear h
    go_enter Try.func58, Try.ntmps58
    go_wp2_with fail
    go_ret
    exact ⟨rfl, by go_grown⟩
  · have h2 : 6 < k := by omega
    clear h
    go_enter Try.func58, Try.ntmps58
    go_wp2_with fail
    go_ret
    exact ⟨rfl, by go_grown⟩
end C11
end Go.Proofs.Ytpamnknfccmgcaa
