/- Walks of layer 11 (pred): whether a predicate of kinds 2, 5, 6 may be; no condition. -/
import Derived.Test.YthmopkaecbebpaaI11
namespace Go.Proofs.Ythmopkaecbebpaa
open Go.RowKit Go.Peri
namespace C11
set_option maxRecDepth 100000 in
theorem khas_any (s : ByteArray) (W : World) : Calls Try.prog 187 #[.string s] W fun e w' => e = .returned (.int .i64 0) ∧ W = w' := by
  go_enter Try.func187, Try.ntmps187
  go_wp2_with fail
  go_ret
  exact ⟨rfl, rfl⟩
end C11
end Go.Proofs.Ythmopkaecbebpaa
